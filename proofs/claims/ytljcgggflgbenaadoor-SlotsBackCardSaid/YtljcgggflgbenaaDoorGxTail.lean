/- A region whose order is drawn, but whose last operations can only come last: the head in whatever order, the tail in the text's. No condition. -/
import Derived.Test.YtljcgggflgbenaaDoorGxRaw
import Derived.Orders
import Derived.Laws.MakeOwn
set_option linter.all false
namespace Go.Gx
open Go Go.RowKit
variable {M : Mu}
def edgeBits (acc : List Nat) : List Edge → Nat
  | [] => 0
  | x :: r => bif Region.binds .any x then (edgeBits acc r ||| 2 ^ x.on ||| acc.getD x.on 0) else edgeBits acc r
def closM : List Oper → List Nat → List Nat
  | [], acc => acc
  | o :: r, acc => closM r (acc ++ [edgeBits acc o.after.toList])
def tailOk (m : Nat) (l : List Oper) : Bool := (List.range l.length).all (fun i => Nat.blt i m || Nat.beq ((closM l []).getD i 0) (2 ^ i - 1))
/-- What is listed is so with all it waits for. -/
def ClosedUp (l : List Oper) (f : Nat → Bool) : Prop := ∀ j oj, l[j]? = some oj → f j = true → ∀ x ∈ oj.after.toList, Region.binds .any x = true → f x.on = true
theorem edgeBits_ok {acc : List Nat} {f : Nat → Bool} {j : Nat} : ∀ {es : List Edge}, (∀ x ∈ es, Region.binds .any x = true → f x.on = true ∧ ((acc.getD x.on 0).testBit j = true → f j = true)) → (edgeBits acc es).testBit j = true → f j = true
  | [], _, h => by simp [edgeBits] at h
  | x :: r, hx, h => by
    simp only [edgeBits] at h
    cases hb : Region.binds .any x with
    | false => rw [hb] at h; exact edgeBits_ok (fun y hy => hx y (by simp [hy])) h
    | true =>
      rw [hb] at h
      simp only [cond_true, Nat.testBit_or, Bool.or_eq_true] at h
      rcases h with (h | h) | h
      · exact edgeBits_ok (fun y hy => hx y (by simp [hy])) h
      · rw [Nat.testBit_two_pow] at h
        have : x.on = j := by simpa using h
        rw [← this]; exact (hx x (by simp) hb).1
      · exact (hx x (by simp) hb).2 h
theorem closM_ok {l : List Oper} {f : Nat → Bool} (hf : ClosedUp l f) : ∀ (r : List Oper) (acc : List Nat) (k : Nat), acc.length = k → l.drop k = r →
    (∀ i o, i < k → l[i]? = some o → (∀ x ∈ o.after.toList, Region.binds .any x = true → f x.on = true) → ∀ j, (acc.getD i 0).testBit j = true → f j = true) →
    ∀ i o, l[i]? = some o → (∀ x ∈ o.after.toList, Region.binds .any x = true → f x.on = true) → ∀ j, ((closM r acc).getD i 0).testBit j = true → f j = true
  | [], acc, k, hk, hr, hacc, i, o, hi, hw, j, hj => by
    have : i < k := by
      have h1 := (List.getElem?_eq_some_iff.1 hi).1
      have h2 := List.drop_eq_nil_iff.1 hr
      omega
    exact hacc i o this hi hw j hj
  | y :: r, acc, k, hk, hr, hacc, i, o, hi, hw, j, hj => by
    have hy : l[k]? = some y := by
      have := congrArg (·[0]?) hr
      simpa using this
    refine closM_ok hf r (acc ++ [edgeBits acc y.after.toList]) (k + 1) (by simp [hk]) (by rw [← List.drop_drop, hr]; rfl) (fun i2 o2 hi2 ho2 hw2 j2 hj2 => ?_) i o hi hw j hj
    by_cases hik : i2 < k
    · rw [List.getD_eq_getElem?_getD, List.getElem?_append_left (by omega), ← List.getD_eq_getElem?_getD] at hj2
      exact hacc i2 o2 hik ho2 hw2 j2 hj2
    · have : i2 = k := by omega
      subst this
      rw [List.getD_eq_getElem?_getD, List.getElem?_append_right (by omega), hk, Nat.sub_self] at hj2
      rw [hy] at ho2
      simp only [Option.some.injEq] at ho2
      subst ho2
      simp only [List.getElem?_cons_zero, Option.getD_some] at hj2
      refine edgeBits_ok (fun x hx hb => ⟨hw2 x hx hb, fun ht => ?_⟩) hj2
      by_cases hx2 : x.on < i2
      · obtain ⟨ox, hox⟩ : ∃ ox, l[x.on]? = some ox := ⟨_, List.getElem?_eq_getElem (by have := (List.getElem?_eq_some_iff.1 hy).1; omega)⟩
        exact hacc x.on ox hx2 hox (hf x.on ox hox (hw2 x hx hb)) j2 ht
      · rw [List.getD_eq_getElem?_getD, List.getElem?_eq_none (by omega)] at ht
        simp at ht
theorem tail_all {m : Nat} {l : List Oper} (ht : tailOk m l = true) {f : Nat → Bool} (hf : ClosedUp l f) {i : Nat} {o : Oper} (hm : m ≤ i) (hi : l[i]? = some o) (hw : ∀ x ∈ o.after.toList, Region.binds .any x = true → f x.on = true) : ∀ j, j < i → f j = true := by
  intro j hj
  have hlt := (List.getElem?_eq_some_iff.1 hi).1
  have h1 := List.all_eq_true.1 ht i (List.mem_range.2 hlt)
  rw [Bool.or_eq_true] at h1
  rcases h1 with h1 | h1
  · have : i < m := Nat.le_of_ble_eq_true h1
    omega
  · have h1 := Nat.eq_of_beq_eq_true h1
    refine closM_ok hf l [] 0 rfl (by simp) (fun i o h => absurd h (Nat.not_lt_zero _)) i o hi hw j ?_
    rw [h1, Nat.testBit_two_pow_sub_one]
    simpa using hj
theorem ready_mem {l : List Oper} {listed : Array Bool} {i : Nat} (h : i ∈ Region.ready .any l.toArray listed) (hls : listed.size = l.length) :
    ∃ o, l[i]? = some o ∧ listed.getD i false = false ∧ ∀ x ∈ o.after.toList, Region.binds .any x = true → listed.getD x.on false = true := by
  unfold Region.ready at h
  rw [List.mem_filter] at h
  obtain ⟨hir, hi⟩ := h
  have hil : i < l.length := by simpa using hir
  simp only [Bool.and_eq_true, Bool.not_eq_true'] at hi
  obtain ⟨hi1, hi2⟩ := hi
  refine ⟨l[i], List.getElem?_eq_getElem hil, ?_, fun x hx hb => ?_⟩
  · rw [Array.getD_eq_getD_getElem?, Array.getElem?_eq_getElem (by omega)] at hi1 ⊢
    simpa using hi1
  · rw [List.getElem?_toArray, List.getElem?_eq_getElem hil] at hi2
    simp only [Option.map_some, Option.getD_some, Array.all_eq_true_iff_forall_mem] at hi2
    have := hi2 x (by simpa using hx)
    rw [hb] at this
    simpa using this
theorem ready_of {l : List Oper} {listed : Array Bool} {i : Nat} {o : Oper} (ho : l[i]? = some o) (hls : listed.size = l.length) (h1 : listed.getD i false = false) (h2 : ∀ x ∈ o.after.toList, Region.binds .any x = true → listed.getD x.on false = true) :
    i ∈ Region.ready .any l.toArray listed := by
  have hil := (List.getElem?_eq_some_iff.1 ho).1
  unfold Region.ready
  rw [List.mem_filter]
  refine ⟨by simp [hil], ?_⟩
  have h3 : listed.getD i true = false := by
    rw [Array.getD_eq_getD_getElem?, Array.getElem?_eq_getElem (by omega)] at h1 ⊢
    simpa using h1
  rw [h3]
  simp only [Bool.not_false, Bool.true_and]
  rw [List.getElem?_toArray, ho]
  simp only [Option.map_some, Option.getD_some, Array.all_eq_true_iff_forall_mem]
  intro x hx
  cases hb : Region.binds .any x with
  | false => simp
  | true => simpa [hb] using h2 x (by simpa using hx) hb
theorem getD_set {listed : Array Bool} {i : Nat} (hi : i < listed.size) (j : Nat) : (listed.setIfInBounds i true).getD j false = if j = i then true else listed.getD j false := by
  rw [Array.getD_eq_getD_getElem?, Array.getElem?_setIfInBounds]
  by_cases hji : i = j
  · subst hji; simp [hi]
  · rw [if_neg hji, if_neg (Ne.symm hji)]; simp [Array.getD_eq_getD_getElem?]
/-- The tail is run in the text's order. -/
theorem tail_run {P : Program} {Q : Exit → Act → World → Prop} {m : Nat} {l : List Oper} (hac : acyclicFrom 0 l = true) (ht : tailOk m l = true) : ∀ (fuel k : Nat) (listed : Array Bool) (a : Act) (w : World), listed.size = l.length → m ≤ k → k + fuel = l.length →
    (∀ i, listed.getD i false = decide (i < k)) → wpList P l.toArray Q (l.drop k) a w → wpAny P .any l.toArray Q fuel listed a w
  | 0, k, listed, a, w, hls, hk, hf, hl, h => by
    have hnil : l.drop k = [] := List.drop_eq_nil_of_le (by omega)
    rw [hnil] at h
    refine ⟨?_, h⟩
    refine List.eq_nil_iff_forall_not_mem.2 fun i hi => ?_
    obtain ⟨o, h1, h2, _⟩ := ready_mem hi hls
    have := (List.getElem?_eq_some_iff.1 h1).1
    rw [hl] at h2
    have := of_decide_eq_false h2
    omega
  | fuel + 1, k, listed, a, w, hls, hk, hf, hl, h => by
    have hkl : k < l.length := by omega
    have hok : l[k]? = some l[k] := List.getElem?_eq_getElem hkl
    have hup : ClosedUp l (fun i => listed.getD i false) := fun j oj hj hdj x hx hb => by
      simp only [hl, decide_eq_true_eq] at hdj ⊢
      have := acyclicFrom_get hac hj x hx hb
      omega
    have hdk : listed.getD k false = false := by rw [hl]; simp
    have hrk : k ∈ Region.ready .any l.toArray listed := ready_of hok hls hdk (fun x hx hb => by
      rw [hl]; simp only [decide_eq_true_eq]
      have := acyclicFrom_get hac hok x hx hb
      omega)
    have hdrop : l.drop k = l[k] :: l.drop (k + 1) := List.drop_eq_getElem_cons hkl
    refine ⟨fun hr => (by rw [hr] at hrk; cases hrk), fun i hi => ?_⟩
    obtain ⟨o, h1, h2, h3⟩ := ready_mem hi hls
    rw [hl] at h2
    have h2 := of_decide_eq_false h2
    have hik : i = k := by
      rcases Nat.lt_or_ge k i with hlt | hge
      · have := tail_all ht hup (by omega) h1 h3 k hlt
        simp only [hdk] at this; cases this
      · omega
    subst hik
    have ih : ∀ a w, wpList P l.toArray Q (l.drop (i + 1)) a w → wpAny P .any l.toArray Q fuel (listed.setIfInBounds i true) a w := fun a w h => tail_run hac ht fuel (i + 1) (listed.setIfInBounds i true) a w (by simpa using hls) (by omega) (by omega) (fun j => by
      rw [getD_set (by omega), hl]
      by_cases hji : j = i
      · rw [if_pos hji, hji]; simp
      · rw [if_neg hji]
        have : (j < i) ↔ (j < i + 1) := by omega
        simp [this]) h
    unfold wpOp
    have hget : l.toArray[i]? = some l[i] := by rw [List.getElem?_toArray]; exact hok
    rw [hget]
    simp only []
    rw [hdrop] at h
    unfold wpList at h
    split
    · rename_i hw
      rw [if_pos hw] at h
      exact h.imp (Oper.wp_mono (fun a w h => ih a w h)) id
    · rename_i hw
      rw [if_neg hw] at h
      exact ih _ _ h
/-- The head in whatever order, then the tail. -/
theorem wcDrawT {P : Program} {Q : Exit → Act → World → Prop} {N : Nat} {e : Env} {w : World} {id : Nat} {l : List Oper} (m : Nat) (hm : P.follows .mixedOrders = true) (hac : acyclicFrom 0 l = true) (hd : dstsOk N l = true) (htail : tailOk m l = true) (hml : Nat.ble m l.length = true)
    (V : Nat → Gh → Value → Prop) (C : Done → Act → Gh → World → Prop) (G : Gh) (hV : ∀ i G G' v, GLe G G' → V i G v → V i G' v) (hC0 : ∀ a, Fr N a e → C (fun _ => false) a G w.drew)
    (hs : DSteps P l N e V C 0 (l.take m)) (hend : ∀ (done : Done) G w a, (∀ i, Nat.blt i m = true → done i = true) → (∀ i, Nat.ble m i = true → done i = false) → C done a G w → Mid l N e V done G a → ∃ e', Fr N a e' ∧ WL P l.toArray Q N (l.drop m) e' w) : WC P Q N (.region id l.toArray true) e w := by
  have hml := Nat.le_of_ble_eq_true hml
  obtain ⟨hok, huniq⟩ := dstsOk_get hd
  intro a ha
  refine wp_region_any hm ?_
  have hsz : l.toArray.size = l.length := by simp
  have key : ∀ (fuel : Nat) (listed : Array Bool) (G : Gh) (a : Act) (w : World), listed.size = l.length → ((List.range m).countP (fun i => !listed.getD i false)) = fuel → C (fun i => listed.getD i false) a G w →
      Mid l N e V (fun i => listed.getD i false) G a → (∀ i, m ≤ i → listed.getD i false = false) → ClosedUp l (fun i => listed.getD i false) → wpAny P .any l.toArray Q (fuel + (l.length - m)) listed a w := by
    intro fuel
    induction fuel with
    | zero =>
      intro listed G a w hls hcnt hC hM htl hcl
      have hall : ∀ i, i < m → listed.getD i false = true := by
        intro i hi
        rw [List.countP_eq_zero] at hcnt
        simpa using hcnt i (List.mem_range.2 hi)
      obtain ⟨e', h1, h2⟩ := hend _ G w a (fun i hi => hall i (Nat.le_of_ble_eq_true hi)) (fun i hi => htl i (Nat.le_of_ble_eq_true hi)) hC hM
      rw [Nat.zero_add]
      refine tail_run hac htail (l.length - m) m listed a w hls (Nat.le_refl _) (by omega) (fun i => ?_) (h2 a h1)
      by_cases hi : i < m
      · rw [hall i hi]; simp [hi]
      · rw [htl i (by omega)]; simp [hi]
    | succ fuel ih =>
      intro listed G a w hls hcnt hC hM htl hcl
      -- some of the head is not listed yet: the first such is ready
      have hex : ∃ i, i < m ∧ listed.getD i false = false ∧ ∀ j, j < i → listed.getD j false = true := by
        have hpos : 0 < (List.range m).countP (fun i => !listed.getD i false) := by omega
        rw [List.countP_pos_iff] at hpos
        obtain ⟨i0, hi0, hb0⟩ := hpos
        have hb0 : listed.getD i0 false = false := by simpa using hb0
        have hi0 := List.mem_range.1 hi0
        have : ∀ n, n ≤ i0 → (∀ j, j < n → listed.getD j false = true) ∨ ∃ i, i < n ∧ listed.getD i false = false ∧ ∀ j, j < i → listed.getD j false = true := by
          intro n
          induction n with
          | zero => intro _; exact .inl (fun j hj => absurd hj (Nat.not_lt_zero _))
          | succ n ihn =>
            intro hn
            rcases ihn (by omega) with h | ⟨i, h1, h2, h3⟩
            · cases hb : listed.getD n false with
              | true => exact .inl (fun j hj => by
                  by_cases hjn : j = n
                  · rw [hjn]; exact hb
                  · exact h j (by omega))
              | false => exact .inr ⟨n, by omega, hb, h⟩
            · exact .inr ⟨i, by omega, h2, h3⟩
        rcases this i0 (Nat.le_refl _) with h | ⟨i, h1, h2, h3⟩
        · exact ⟨i0, hi0, hb0, h⟩
        · exact ⟨i, by omega, h2, h3⟩
      obtain ⟨if0, hif, hib, hipre⟩ := hex
      have hsuc : fuel + 1 + (l.length - m) = (fuel + (l.length - m)) + 1 := by omega
      rw [hsuc]
      refine ⟨fun hr => ?_, fun i hi => ?_⟩
      · have ho : l[if0]? = some l[if0] := List.getElem?_eq_getElem (by omega)
        have := ready_of ho hls hib (fun x hx hb => hipre _ (by have := acyclicFrom_get hac ho x hx hb; omega))
        rw [hr] at this; cases this
      obtain ⟨o, ho, hdi, hpre⟩ := ready_mem hi hls
      have him : i < m := by
        rcases Nat.lt_or_ge i m with h | h
        · exact h
        · have := tail_all htail hcl h ho hpre if0 (by omega)
          simp only [hib] at this; cases this
      have hil := (List.getElem?_eq_some_iff.1 ho).1
      have hoe : l[i] = o := (List.getElem?_eq_some_iff.1 ho).2
      have hns : ∀ j oj, l[j]? = some oj → (∃ x ∈ oj.after.toList, Region.binds .any x = true ∧ x.on = i) → listed.getD j false = false := by
        rintro j oj hj ⟨x, hx, hb, hxi⟩
        cases hd : listed.getD j false with
        | false => rfl
        | true =>
          have := hcl j oj hj hd x hx hb
          simp only [hxi, hdi] at this
          cases this
      have hset : (fun j => (listed.setIfInBounds i true).getD j false) = Done.set (fun j => listed.getD j false) i := by
        funext j
        rw [getD_set (by omega)]; rfl
      have hcnt' : ((List.range m).countP (fun j => !(listed.setIfInBounds i true).getD j false)) = fuel := by
        have e1 : (List.range m).countP (fun j => !listed.getD j false) = (List.range m).countP (fun j => !(listed.setIfInBounds i true).getD j false) + 1 := by
          have hsp : List.range m = List.range i ++ (i :: List.range' (i + 1) (m - i - 1)) := by
            rw [List.range_eq_range', List.range_eq_range', show m = i + (1 + (m - i - 1)) by omega, ← List.range'_append_1, Nat.zero_add, ← List.range'_append_1]
            congr 1
            simp [List.range']
          rw [hsp, List.countP_append, List.countP_append, List.countP_cons, List.countP_cons]
          have h1 : (List.range i).countP (fun j => !(listed.setIfInBounds i true).getD j false) = (List.range i).countP (fun j => !listed.getD j false) := by
            apply List.countP_congr
            intro j hj
            rw [getD_set (by omega), if_neg (by have := List.mem_range.1 hj; omega)]
          have h2 : (List.range' (i + 1) (m - i - 1)).countP (fun j => !(listed.setIfInBounds i true).getD j false) = (List.range' (i + 1) (m - i - 1)).countP (fun j => !listed.getD j false) := by
            apply List.countP_congr
            intro j hj
            rw [getD_set (by omega), if_neg (by have := (List.mem_range'_1.1 hj).1; omega)]
          rw [h1, h2, getD_set (by omega), if_pos rfl, hdi]
          simp; omega
        omega
      have hcl' : ClosedUp l (fun j => (listed.setIfInBounds i true).getD j false) := by
        intro j oj hj hdj x hx hb
        simp only [getD_set (show i < listed.size by omega)] at hdj ⊢
        split
        · rfl
        · by_cases hji : j = i
          · subst hji
            rw [ho] at hj
            simp only [Option.some.injEq] at hj
            subst hj
            exact hpre x hx hb
          · rw [if_neg hji] at hdj
            exact hcl j oj hj hdj x hx hb
      have htl' : ∀ j, m ≤ j → (listed.setIfInBounds i true).getD j false = false := by
        intro j hj
        rw [getD_set (by omega), if_neg (by omega)]
        exact htl j hj
      have hmid : ∀ (G' : Gh) (v : Value), GLe G G' → V i G' v → Mid l N e V (fun j => (listed.setIfInBounds i true).getD j false) G' (a.put o.dst v) := by
        intro G' v hg hVi
        rw [hset]
        refine ⟨?_, ?_, ?_, ?_, hd⟩
        · cases o.dst <;> simp [Act.put, hM.sz]
        · cases o.dst <;> simp [Act.put, hM.df]
        · intro s u hu hno
          have hne : o.dst ≠ some s := by
            intro h
            have := hno i o ho h
            simp [Done.set] at this
          have h1 := hM.old s u hu (fun j oj hj hds => by
            have := hno j oj hj hds
            unfold Done.set at this
            split at this
            · cases this
            · exact this)
          cases hdst : o.dst with
          | none => simpa [Act.put] using h1
          | some d =>
            simp only [Act.put]
            rw [Array.getElem?_setIfInBounds_ne (by rintro rfl; exact hne hdst)]
            exact h1
        · intro j oj d hj hdj hds
          by_cases hji : j = i
          · subst hji
            rw [ho] at hj
            simp only [Option.some.injEq] at hj
            subst hj
            have hlt : d < N := by
              have := hok j o ho
              rw [hds] at this
              exact Nat.le_of_ble_eq_true this
            exact ⟨v, by rw [hds]; simp [Act.put, hM.sz, hlt], hVi⟩
          · have hdj' : listed.getD j false = true := by
              unfold Done.set at hdj
              rwa [if_neg hji] at hdj
            obtain ⟨u, hu, hVu⟩ := hM.new j oj d hj hdj' hds
            refine ⟨u, ?_, hV _ _ _ _ hg hVu⟩
            cases hdst : o.dst with
            | none => simpa [Act.put] using hu
            | some d2 =>
              simp only [Act.put]
              rw [Array.getElem?_setIfInBounds_ne (by rintro rfl; exact hji (huniq _ _ _ _ _ hj ho hds hdst))]
              exact hu
      have hst : DStep P l N e V C i o := by
        have := hs.get (i := i) (o := o) (by rw [List.getElem?_take, if_pos him]; exact ho)
        rwa [Nat.zero_add] at this
      have hst := hst _ G w a hdi hpre hns hC hM
      unfold wpOp
      have hget : l.toArray[i]? = some o := by rw [List.getElem?_toArray]; exact ho
      rw [hget]
      simp only []
      split
      · rename_i hw
        rw [if_pos hw] at hst
        refine .inl (hst.wp fun v w' ⟨G', hg, hC', hVi⟩ => ?_)
        exact ih (listed.setIfInBounds i true) G' (a.put o.dst v) w' (by simpa using hls) hcnt' (by rw [hset]; exact hC') (hmid G' v hg hVi) htl' hcl'
      · rename_i hw
        rw [if_neg hw] at hst
        exact ih (listed.setIfInBounds i true) G (a.put o.dst undef) w (by simpa using hls) hcnt' (by rw [hset]; exact hst.1) (hmid G undef (fun _ _ h => h) hst.2) htl' hcl'
  have hf : ∀ i, (Array.replicate l.length false).getD i false = false := by
    intro i
    rw [Array.getD_eq_getD_getElem?, Array.getElem?_replicate]
    split <;> rfl
  have hrun := key m (Array.replicate l.length false) G a w.drew (by simp) (by
    have : (List.range m).countP (fun i => !(Array.replicate l.length false).getD i false) = (List.range m).countP (fun _ => true) := List.countP_congr (fun i _ => by rw [hf]; simp)
    rw [this]; simp) (by
      have : (fun i => (Array.replicate l.length false).getD i false) = (fun _ => false) := by funext i; exact hf i
      rw [this]; exact hC0 a ha) ⟨ha.sz, ha.df, fun s v hv _ => ha.at_ s v hv, fun j o d _ hj _ => (by rw [hf] at hj; cases hj), hd⟩ (fun i _ => hf i) (fun j oj _ hj => by simp only [hf] at hj; cases hj)
  rw [show m + (l.length - m) = l.length by omega] at hrun
  rw [hsz]; exact hrun
section
variable {P : Program} {N : Nat} {e : Env} {w w0 : World} {G0 G : Gh} {d : Option Tmp} {ty : TypeId} {pos : String} {af : Array Edge} {gd : Option (Nat × Bool)} {bl r : List Bx}
theorem drawCallO {a : Act} {x : Operand} {f : FuncId} {xs : List Operand} {vs caps first : List Value} {ats : Array TypeId} {S : Gh → Option Bx → Value → Prop} {R : Value → World → Prop} (hF : Fr N a e) (hC : Cx w0 G0 G w M) (hB : Bxs G w w0.heap.size (bl ++ r) M)
    (hx : opv e x = some (.func (.func f) first.toArray caps.toArray)) (hf : callOk P f = true) (hvs : opvs e xs = some vs) (hc : RetO P f (first ++ vs ++ caps).toArray G w S)
    (hR : ∀ v G' o w', GLe G G' → Cx w0 G0 G' w' M → Bxs G' w' w0.heap.size (bl ++ (o.toList ++ r)) M → S G' o v → R v w') :
    OpR P ⟨d, .call ⟨.value x, xs.toArray, ats⟩, ty, pos, af, gd⟩ a w R := by
  refine opCall (R := R) hx hf hvs (Calls.mono hc fun _ w' ⟨v, G', o, h1, hk, hO, h4⟩ => ⟨v, h1, hR v G' o w' hk.gle (hC.trans hk) ?_ h4⟩) a hF
  refine (hB.join hk hO hC.size hC.heldLt).perm ?_
  rw [← List.append_assoc, ← List.append_assoc]
  exact List.perm_append_comm.append_right r
end
/-- One of the call's own blocks alone. -/
theorem Bxs.mine {G : Gh} {w : World} {n : Nat} {bl r : List Bx} {o : Option Bx} (h : Bxs G w n (bl ++ (o.toList ++ r)) M) : Bxs G w w.heap.size (Option.toList o) ((Option.toList o).map (·.1)) := by
  have h1 := h.sub (l' := o.toList) ((List.sublist_append_left _ _).trans (List.sublist_append_right _ _))
  exact ⟨fun x hx => ⟨(h1.at_ x hx).1, (h1.at_ x hx).2.1, .inr (List.mem_map.2 ⟨x, hx, rfl⟩)⟩, h1.nodup, fun x _ hm => List.not_mem_nil hm⟩
section
variable {P : Program} {N : Nat} {e : Env} {w : World} {d : Option Tmp} {pos : String} {af : Array Edge} {gd : Option (Nat × Bool)}
theorem opMax {x y : Operand} {a b : Int} {ats : Array TypeId} {rt : TypeId} {k : IntKind} (hx : opv e x = some (.int k a)) (hy : opv e y = some (.int k b)) :
    OpVal P N e w ⟨d, .call ⟨.builtin .max, #[x, y], ats⟩, rt, pos, af, gd⟩ (.int k (max a b)) := fun s hs => by
  have h : (if a < b then b else a) = max a b := by split <;> omega
  simp only [execOp, resolve, Sem.run_bind, Sem.run_pure, Result.andThen_ok, invoke, builtin, List.map_toArray, List.map_cons, List.map_nil, hs.eval hx, hs.eval hy, run_max_int2, gt_iff_lt, h]
end
section
variable {P : Program} {N : Nat} {e : Env} {w w0 : World} {G0 G : Gh} {d : Option Tmp} {ty : TypeId} {pos : String} {af : Array Edge} {gd : Option (Nat × Bool)} {bl r : List Bx} {o : Option Bx}
theorem drawCallP {a : Act} {x : Operand} {f : FuncId} {xs : List Operand} {vs caps first : List Value} {ats : Array TypeId} {S : Gh → Option Bx → Value → Prop} {R : Value → World → Prop} (hF : Fr N a e) (hC : Cx w0 G0 G w M) (hB : Bxs G w w0.heap.size (bl ++ (o.toList ++ r)) M)
    (hx : opv e x = some (.func (.func f) first.toArray caps.toArray)) (hf : callOk P f = true) (hvs : opvs e xs = some vs) (hc : RetP P f (first ++ vs ++ caps).toArray G w (o.toList.map (·.1)) S)
    (hR : ∀ v G' o' w', GLe G G' → Cx w0 G0 G' w' M → Bxs G' w' w0.heap.size (bl ++ (o'.toList ++ r)) M → S G' o' v → R v w') :
    OpR P ⟨d, .call ⟨.value x, xs.toArray, ats⟩, ty, pos, af, gd⟩ a w R := by
  refine opCall (R := R) hx hf hvs (Calls.mono hc fun _ w' ⟨v, G', o', h1, hk, hO, h4⟩ => ⟨v, h1, hR v G' o' w' hk.gle (hC.transM hk (fun b hb => ?_) fun b hb => ?_) (hB.over hk hO hC.size hC.heldLt) h4⟩) a hF
  · obtain ⟨y, hy, rfl⟩ := List.mem_map.1 hb
    exact (hB.at_ y (by simp [hy])).2.2
  · obtain ⟨y, hy, rfl⟩ := List.mem_map.1 hb
    exact hB.apart y (by simp [hy])
end
/-- What is kept track of, in another order. -/
theorem Cx.permH {w0 w : World} {G0 G : Gh} {m : List Nat} {L L' : List (Nat × Obj)} (h : Cx w0 G0 G w ⟨m, L⟩) (p : L.Perm L') : Cx w0 G0 G w ⟨m, L'⟩ :=
  ⟨h.holds, h.os, h.tape, h.output, h.size, h.old', h.gle, h.fresh, fun x hx => h.held x (p.mem_iff.2 hx), (p.map (·.1)).nodup_iff.1 h.hnd⟩
theorem Bxs.permH {w : World} {G : Gh} {n : Nat} {bl : List Bx} {m : List Nat} {L L' : List (Nat × Obj)} (h : Bxs G w n bl ⟨m, L⟩) (p : L.Perm L') : Bxs G w n bl ⟨m, L'⟩ :=
  ⟨h.at_, h.nodup, fun x hx hm => h.apart x hx ((p.map (·.1)).mem_iff.2 hm)⟩
theorem Ow.formH {α : Type} [Rp α] {G : Gh} {g T T' : Nat} {cs : List Value} {v : Value} {xs : List α} (h : Ow G (some (g, T', cs)) T v xs) : ∃ so cap, v = .slice (some ⟨g, so, none⟩) xs.length cap := by
  obtain ⟨rows, ⟨_, h2⟩, h3⟩ := h
  obtain ⟨_, so, cap, rfl, _⟩ := h2
  exact ⟨so, cap, by rw [h3.length]⟩
/-- What is behind the first of an own slice. -/
theorem Ow.dropOwn {α : Type} [Rp α] {G : Gh} {g T T' so n cap l : Nat} {cs : List Value} {xs : List α} (h : Ow G (some (g, T', cs)) T (.slice (some ⟨g, so, none⟩) n cap) xs) (hl : l ≤ xs.length) :
    Ow G (some (g, T', cs)) T (.slice (some ⟨g, so + l * Rp.sz α, none⟩) (n - l) (cap - l)) (xs.drop l) := by
  obtain ⟨rows, ⟨h1, h2⟩, h3⟩ := h
  obtain ⟨hT, so', cap', hv, h4, h5, h6, h7⟩ := h2
  injection hv with e1 e2 e3
  injection e1 with e1
  injection e1 with e0 e1
  subst e3; subst e1; subst e2
  have hr := h3.length
  have hmul := Nat.mul_le_mul_right (Rp.sz α) (show l ≤ cap by omega)
  refine ⟨rows.drop l, ⟨fun r hr => h1 r (List.mem_of_mem_drop hr), hT, so + l * Rp.sz α, cap - l, by rw [List.length_drop], by rw [List.length_drop]; omega, by omega, ?_, ?_⟩, h3.drop l⟩
  · rw [h6, Nat.sub_mul]; omega
  · rw [List.length_drop, ← List.drop_drop, Nat.sub_mul]
    have e : rows.flatten = (rows.take l).flatten ++ (rows.drop l).flatten := by rw [← List.flatten_append, List.take_append_drop]
    have hf := flatten_len (rows := rows.take l) (fun r hr => h1 r (List.mem_of_mem_take hr))
    rw [List.length_take, Nat.min_eq_left (by omega)] at hf
    have := congrArg (List.drop (l * Rp.sz α)) h7
    rw [e, ← hf, List.drop_left, List.drop_take] at this
    rw [← hf]; exact this
/-- An element that is a slice, of an own slice. -/
theorem Ow.cellH {β : Type} [Rp β] {G : Gh} {g T T' n cap i so : Nat} {cs : List Value} {xs : List (List β)} {x : List β} (h : Ow G (some (g, T', cs)) T (.slice (some ⟨g, so, none⟩) n cap) xs) (hx : xs[i]? = some x) :
    ∃ v, Sl G v x ∧ ∀ w : World, w.heap[g]? = some (.cells cs.toArray T (0, 0)) → w.cell? ⟨g, so + i * 1, none⟩ = some v := by
  obtain ⟨rows, ⟨h1, h2⟩, h3⟩ := h
  obtain ⟨row, hrow, hrx⟩ := h3.get hx
  obtain ⟨hT, so', cap', hsl, h4, h5, h6, h7⟩ := h2
  obtain rfl : so = so' := by injection hsl with e1; injection e1 with e1; injection e1
  obtain ⟨v, hv, hS⟩ := hrx
  subst hv
  refine ⟨v, hS, fun w hw => ?_⟩
  have hf := flatten_get h1 hrow (j := 0) (u := v) rfl
  rw [← h7, List.getElem?_take] at hf
  split at hf
  · rw [List.getElem?_drop] at hf
    rw [World.cell?, hw]
    simpa [Rp.sz] using hf
  · cases hf
section
variable {α : Type} [Rp α] {P : Program} {ops : Array Oper} {Q : Exit → Act → World → Prop} {N : Nat} {e : Env} {w w0 : World} {G0 G : Gh} {rest : List Oper} {d : Option Tmp} {ty : TypeId} {pos : String} {af : Array Edge} {bl r : List Bx}
theorem made_one (v : Value) (n : Nat) : (madeCells #[v] n).toList = List.replicate n v := by
  unfold madeCells
  apply List.ext_getElem?
  intro i
  by_cases hi : i < n
  · simp [List.getElem?_replicate, hi, Nat.mod_one]
  · simp [List.getElem?_replicate, hi]
/-- make([]T, n), T of one cell. -/
theorem wlMakeOwn {t el bytes n : Nat} {x y : Operand} {z : α} {zv : Value} (he : elemOk P t el 1 bytes = true) (h1 : Rp.sz α = 1) (hz : (P.info? el).bind (fun i => i.zero) = some zv) (hzc : zv.cells = #[zv]) (hzi : ∀ G, Rp.Is G [zv] z)
    (hC : Cx w0 G0 G w M) (hB : Bxs G w w0.heap.size (bl ++ r) M) (hx : opv e x = some (.int .i64 (n : Int))) (hy : opv e y = some (.int .i64 (n : Int))) (hm : n ≤ 1073741824) (hby : Nat.ble bytes 1024 = true) (hd : okD N d = true)
    (h : ∀ b w', Cx w0 G0 G w' M → Bxs G w' w0.heap.size (bl ++ (Option.toList (some (b, el, List.replicate n zv)) ++ r)) M → Ow G (some (b, el, List.replicate n zv)) el (.slice (some ⟨b, 0, none⟩) n n) (List.replicate n z) →
      WL P ops Q N rest (e.putO d (.slice (some ⟨b, 0, none⟩) n n)) w') :
    WL P ops Q N (⟨d, .makeSlice t x y, ty, pos, af, none⟩ :: rest) e w := by
  obtain ⟨ht, i, z', hi, hz', hsz, hby2, hzs⟩ := elemOk_of he
  have hzz : z' = zv := by simpa [hi, hz'] using hz
  subst hzz
  have hb2 := Nat.le_of_ble_eq_true hby
  have hmul : bytes * n ≤ 1024 * n := Nat.mul_le_mul_right _ hb2
  have hr := run_make (P := P) w t el i z' ht hi hz' .i64 .i64 (n : Int) (n : Int) (Int.natCast_nonneg _) (Int.le_refl _) (by rw [hby2, ← Int.natCast_mul]; omega) (by omega)
  simp only [Int.toNat_natCast] at hr
  rw [hsz, Nat.mul_one, hzc] at hr
  have hml := made_one z' n
  have hcs : madeCells #[z'] n = (List.replicate n z').toArray := by rw [← hml]
  rw [hcs] at hr
  refine wlStep (R := fun v w' => v = .slice (some ⟨w.heap.size, 0, none⟩) n n ∧ w' = w.alloc (.cells (List.replicate n z').toArray el)) hd (fun a ha => ?_) ?_
  · unfold OpR
    have : (execOp a.eval ⟨d, .makeSlice t x y, ty, pos, af, none⟩).run P w = .ok (.value (.slice (some ⟨w.heap.size, 0, none⟩) n n)) (w.alloc (.cells (List.replicate n z').toArray el)) := by
      simp [execOp, ha.eval hx, ha.eval hy, hr]
    rw [this]; exact ⟨rfl, rfl⟩
  · rintro v w' ⟨rfl, rfl⟩
    have hk := Cx.alloc hC.holds (.cells (List.replicate n z').toArray el)
    refine h w.heap.size _ (hC.trans hk) ((hB.push hC.holds hC.size hC.heldLt el (List.replicate n z')).perm (by simpa using List.perm_middle.symm)) ?_
    have hR : Rows2 G (List.replicate n [z']) (List.replicate n z) := by
      clear hr hm hmul hk hml hcs hx hy h
      induction n with
      | zero => trivial
      | succ n ih => exact ⟨hzi G, ih⟩
    refine Ow.ofRaw hR (by simp) (Nat.le_refl _) (by unfold maxLen; omega) (by rw [h1]; simp) ?_
    rw [h1, Nat.mul_one, List.take_of_length_le (by simp)]
    clear hR hr hm hmul hk hml hcs hx hy h
    induction n with
    | zero => rfl
    | succ n ih => rw [List.replicate_succ, List.replicate_succ, List.flatten_cons, ← ih]; rfl
end
/-- A field of a struct at hand. -/
def fieldIs (P : Program) (s i ft off : Nat) : Bool :=
  match P.underlying s with
  | some (.struct fs) => match fs[i]? with
    | some f => Nat.beq f.type ft && Nat.beq f.offset off
    | none => false
  | _ => false
section
variable {P : Program} {N : Nat} {e : Env} {w : World} {d : Option Tmp} {ty : TypeId} {pos : String} {af : Array Edge} {gd : Option (Nat × Bool)}
theorem run_field {s i ft off : Nat} {cs : Array Value} {v : Value} (hf : fieldIs P s i ft off = true) (h : (part ft cs off).run P w = .ok v w) : (Instr.field s (.agg cs) i).run P w = .ok v w := by
  unfold fieldIs at hf
  revert hf
  cases hu : P.underlying s with
  | none => intro h; cases h
  | some dd =>
    cases dd <;> (try (intro h; cases h; done))
    rename_i fs
    simp only []
    cases hfi : fs[i]? with
    | none => intro h; cases h
    | some f =>
      simp only [Bool.and_eq_true]
      rintro ⟨h1, h2⟩
      have h1 := Nat.eq_of_beq_eq_true h1
      have h2 := Nat.eq_of_beq_eq_true h2
      subst h1; subst h2
      simp [Instr.field, run_underlying hu, hfi, asAgg, h]
theorem opFieldRow {s i ft off n : Nat} {x : Operand} {cs r : List Value} (hx : opv e x = some (.agg cs.toArray)) (hf : fieldIs P s i ft off = true) (hr : rowOk P ft n = true) (hp : (cs.drop off).take n = r) :
    OpVal P N e w ⟨d, .field s x i, ty, pos, af, gd⟩ (.agg r.toArray) := fun a ha => by
  have := run_field (w := w) hf (run_part_row' hr hp w)
  simp [execOp, ha.eval hx, this]
theorem opFieldOne {s i ft off : Nat} {x : Operand} {cs : List Value} {v : Value} (hx : opv e x = some (.agg cs.toArray)) (hf : fieldIs P s i ft off = true) (hr : oneOk P ft = true) (hp : cs[off]? = some v) :
    OpVal P N e w ⟨d, .field s x i, ty, pos, af, gd⟩ v := fun a ha => by
  have := run_field (w := w) hf (run_part_one (cs := cs.toArray) hr (by simpa using hp) w)
  simp [execOp, ha.eval hx, this]
end
/-! ### Functions without results -/
theorem callsOfN {P : Program} {f : FuncId} {fn : Func} {c : Code} {args : Array Value} {w : World} {R : Ending → World → Prop}
    (hf : P.funcs[f]? = some fn) (hb : fn.body = some c) (N : Nat) (hN : fn.ntmps = N) (hle0 : Nat.ble args.size N = true) (e : Env) (he : ∀ t v, e t = some v → args[t]? = some v)
    (h : ∀ Q0 : Exit → Act → World → Prop, (∀ a w v, (results fn a.tmps).run P w = .ok v w → a.defers = [] → R (.returned v) w → Q0 .ret a w) →
      (∀ a w v, (results fn a.tmps).run P w = .ok v w → a.defers = [] → R (.returned v) w → Q0 .normal a w) → WC P Q0 N c e w) : Calls P f args w R := by
  have hle : args.size ≤ N := Nat.le_of_ble_eq_true hle0
  refine calls_of_wp hf hb (h _ (fun a w v h1 h2 h3 => ⟨h2, v, h1, h3⟩) (fun a w v h1 h2 h3 => ⟨h2, v, h1, h3⟩) _ ⟨?_, rfl, fun t v ht => ?_⟩)
  · simp; omega
  · have := he t v ht
    have hlt : t < args.size := by
      rcases Nat.lt_or_ge t args.size with h | h
      · exact h
      · rw [Array.getElem?_eq_none h] at this; cases this
    simp only []
    rw [Array.getElem?_append_left hlt]
    exact this
theorem results0 {P : Program} {N : Nat} {e : Env} {w : World} {fn : Func} {a : Act} (_ : Fr N a e) (hr : fn.results = #[]) : (results fn a.tmps).run P w = .ok (.tuple #[]) w := by
  rw [results_eq, hr]
  simp
end Go.Gx
