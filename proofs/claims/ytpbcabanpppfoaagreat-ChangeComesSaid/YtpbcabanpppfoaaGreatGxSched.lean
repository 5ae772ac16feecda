/- A region whose order Go leaves open: operations that but read are taken ahead, the others come in each order. No condition. -/
import Derived.Test.YtpbcabanpppfoaaGreatGxSlot
import Derived.OrdersHeld
set_option linter.all false
namespace Go.Gx
open Go Go.RowKit
set_option linter.unusedSectionVars false
variable {M : Mu}
/-- Only a normal end. -/
def QN (Q : Act → World → Prop) : Exit → Act → World → Prop
  | .normal, a, w => Q a w
  | _, _, _ => False
def maskOf (o : Oper) (A : List Nat) : Nat := o.after.toList.foldl (fun m x => bif Region.binds .any x then m ||| ((1 <<< x.on) ||| A.getD x.on 0) else m) 0
/-- A: whom each waits for, at last. -/
def ancOk (A : List Nat) : Nat → List Oper → Bool
  | _, [] => true
  | k, o :: r => Nat.beq (A.getD k 0) (maskOf o A) && ancOk A (k + 1) r
def rdyB (l : List Oper) (done i : Nat) : Bool := !(done.testBit i) && match l[i]? with | none => false | some o => o.after.toList.all (fun x => !Region.binds .any x || done.testBit x.on)
def rdyL (l : List Oper) (done : Nat) : List Nat := (List.range l.length).filter (rdyB l done)
abbrev Tk := List (Nat × (World → Prop))
def Tk.all (T : Tk) (w : World) : Prop := ∀ p ∈ T, p.2 w
def Tk.keep (A : List Nat) (k : Nat) (T : Tk) : Tk := List.filter (fun p => !(A.getD k 0).testBit p.1) T
theorem Tk.nil (w : World) : Tk.all [] w := fun _ h => by cases h
theorem Tk.cons {T : Tk} {w : World} {p : Nat × (World → Prop)} (h : p.2 w) (hT : Tk.all T w) : Tk.all (p :: T) w := fun q hq => by
  rcases List.mem_cons.1 hq with rfl | hq
  · exact h
  · exact hT q hq
theorem Tk.sub {T T' : Tk} {w : World} (h : T'.Sublist T) (hT : Tk.all T w) : Tk.all T' w := fun p hp => hT p (h.subset hp)
theorem Tk.keepK {A : List Nat} {k : Nat} {T : Tk} {w : World} (h : Tk.all T w) : Tk.all (T.keep A k) w := Tk.sub List.filter_sublist h

def wpS (P : Program) (l : List Oper) (A : List Nat) (Q : Act → World → Prop) : Nat → Nat → Tk → Act → World → Prop
  | 0, done, _, a, w => rdyL l done = [] ∧ Q a w
  | n + 1, done, T, a, w => (rdyL l done = [] → Q a w) ∧ ∀ k ∈ rdyL l done, wpOp P l.toArray (QN Q) k (fun a' w' => (T.keep A k).all w' ∧ wpS P l A Q n (done ||| (1 <<< k)) (T.keep A k) a' w') a w

section
variable {P : Program} {l : List Oper} {A : List Nat} {Q : Act → World → Prop}
theorem testBit_add (d k i : Nat) : (d ||| (1 <<< k)).testBit i = (d.testBit i || decide (k = i)) := by
  rw [Nat.testBit_or, Nat.one_shiftLeft, Nat.testBit_two_pow]
theorem mem_rdyL {done i : Nat} : i ∈ rdyL l done ↔ rdyB l done i = true := by
  unfold rdyL
  rw [List.mem_filter, List.mem_range]
  refine ⟨fun h => h.2, fun h => ⟨?_, h⟩⟩
  unfold rdyB at h
  rcases Nat.lt_or_ge i l.length with h1 | h1
  · exact h1
  · rw [List.getElem?_eq_none h1] at h; simp at h
theorem rdyB_spec {done i : Nat} : rdyB l done i = true ↔ done.testBit i = false ∧ ∃ o, l[i]? = some o ∧ ∀ x ∈ o.after.toList, Region.binds .any x = true → done.testBit x.on = true := by
  unfold rdyB
  rw [Bool.and_eq_true, Bool.not_eq_true']
  cases h : l[i]? with
  | none => simp
  | some o =>
    simp only [Option.some.injEq, exists_eq_left', List.all_eq_true, Bool.or_eq_true, Bool.not_eq_true']
    refine and_congr_right fun _ => forall₂_congr fun x _ => ?_
    cases Region.binds .any x <;> simp
theorem wpS_sub : ∀ {n done : Nat} {T T' : Tk} {a : Act} {w : World}, T'.Sublist T → wpS P l A Q n done T a w → wpS P l A Q n done T' a w
  | 0, _, _, _, _, _, _, h => h
  | _ + 1, _, _, _, _, _, hs, h => ⟨h.1, fun k hk => wpOp_mono (fun _ _ ⟨h1, h2⟩ => ⟨Tk.sub (hs.filter _) h1, wpS_sub (hs.filter _) h2⟩) (h.2 k hk)⟩
theorem ready_eq {done : Nat} {listed : Array Bool} (hs : listed.size = l.length) (hl : ∀ i, listed.getD i false = done.testBit i) : Region.ready .any l.toArray listed = rdyL l done := by
  unfold Region.ready rdyL
  rw [List.size_toArray]
  refine List.filter_congr fun i hi => ?_
  have hi' : i < listed.size := by rw [hs]; simpa using hi
  have h1 := hl i
  unfold rdyB
  rw [Array.getD_eq_getD_getElem?, Array.getElem?_eq_getElem hi'] at h1 ⊢
  simp only [Option.getD_some] at h1 ⊢
  rw [h1, List.getElem?_toArray]
  cases l[i]? with
  | none => simp
  | some o =>
    simp only [Option.map_some, Option.getD_some]
    congr 1
    rw [← Array.all_toList]
    congr 1
    funext x
    rw [← hl, Array.getD_eq_getD_getElem?]
theorem wpAny_of_S : ∀ {n done : Nat} {T : Tk} {a : Act} {w : World} {listed : Array Bool}, listed.size = l.length → (∀ i, listed.getD i false = done.testBit i) → wpS P l A Q n done T a w → wpAny P .any l.toArray (QN Q) n listed a w
  | 0, _, _, _, _, _, hs, hl, h => ⟨by rw [ready_eq hs hl]; exact h.1, h.2⟩
  | n + 1, done, _, _, _, listed, hs, hl, h => ⟨fun h0 => h.1 (by rw [← ready_eq hs hl]; exact h0), fun i hi => by
      have hi' := hi
      rw [ready_eq hs hl] at hi
      refine wpOp_mono (fun _ _ ⟨_, h2⟩ => wpAny_of_S (by simpa using hs) (fun j => ?_) h2) (h.2 i hi)
      obtain ⟨_, o, ho, _⟩ := rdyB_spec.1 (mem_rdyL.1 hi)
      have hil : i < listed.size := by rw [hs]; exact (List.getElem?_eq_some_iff.1 ho).1
      rw [testBit_add, ← hl j, Array.getD_eq_getD_getElem?, Array.getElem?_setIfInBounds, Array.getD_eq_getD_getElem?]
      by_cases h1 : i = j
      · subst h1; simp [hil]
      · simp [h1]⟩
def Closed (A : List Nat) (done : Nat) : Prop := ∀ j, done.testBit j = true → ∀ i, (A.getD j 0).testBit i = true → done.testBit i = true
theorem fold_bit {A : List Nat} {i : Nat} : ∀ (es : List Edge) (m : Nat), (es.foldl (fun m x => bif Region.binds .any x then m ||| ((1 <<< x.on) ||| A.getD x.on 0) else m) m).testBit i = true →
    m.testBit i = true ∨ ∃ x ∈ es, Region.binds .any x = true ∧ (x.on = i ∨ (A.getD x.on 0).testBit i = true)
  | [], m, h => .inl h
  | x :: es, m, h => by
    rw [List.foldl_cons] at h
    rcases fold_bit es _ h with h1 | ⟨y, hy, h2, h3⟩
    · cases hb : Region.binds .any x with
      | false => rw [hb] at h1; exact .inl h1
      | true =>
        rw [hb] at h1
        simp only [cond_true, Nat.testBit_or, Bool.or_eq_true, Nat.one_shiftLeft, Nat.testBit_two_pow, decide_eq_true_eq] at h1
        rcases h1 with h1 | h1 | h1
        · exact .inl h1
        · exact .inr ⟨x, by simp, hb, .inl h1⟩
        · exact .inr ⟨x, by simp, hb, .inr h1⟩
    · exact .inr ⟨y, by simp [hy], h2, h3⟩
theorem ancOk_get : ∀ {r : List Oper} {k : Nat}, ancOk A k r = true → ∀ {j : Nat} {o : Oper}, r[j]? = some o → A.getD (k + j) 0 = maskOf o A
  | [], _, _, j, o, h => by simp at h
  | x :: r, k, hA, j, o, h => by
    simp only [ancOk, Bool.and_eq_true] at hA
    cases j with
    | zero => simp at h; subst h; exact Nat.eq_of_beq_eq_true hA.1
    | succ j => have := ancOk_get hA.2 (j := j) (o := o) (by simpa using h); rwa [show k + 1 + j = k + (j + 1) from by omega] at this
theorem ready_anc (hA : ancOk A 0 l = true) {done k : Nat} (hc : Closed A done) (hk : rdyB l done k = true) {i : Nat} (hi : (A.getD k 0).testBit i = true) : done.testBit i = true := by
  obtain ⟨_, o, ho, hall⟩ := rdyB_spec.1 hk
  have := ancOk_get hA ho
  rw [Nat.zero_add] at this
  rw [this] at hi
  rcases fold_bit _ _ hi with h1 | ⟨x, hx, hb, h1⟩
  · simp at h1
  · rcases h1 with rfl | h1
    · exact hall x hx hb
    · exact hc _ (hall x hx hb) _ h1
theorem Closed.add (hA : ancOk A 0 l = true) {done k : Nat} (hc : Closed A done) (hk : rdyB l done k = true) : Closed A (done ||| (1 <<< k)) := by
  intro j hj i hi
  rw [testBit_add, Bool.or_eq_true, decide_eq_true_eq] at hj ⊢
  rcases hj with hj | rfl
  · exact .inl (hc j hj i hi)
  · exact .inl (ready_anc hA hc hk hi)
theorem rdyB_add {done i k : Nat} (hk : rdyB l done k = true) (hne : k ≠ i) : rdyB l (done ||| (1 <<< i)) k = true := by
  rw [rdyB_spec] at hk ⊢
  obtain ⟨h1, o, ho, hall⟩ := hk
  refine ⟨?_, o, ho, fun x hx hb => ?_⟩
  · rw [testBit_add, h1]; simp [Ne.symm hne]
  · rw [testBit_add, hall x hx hb]; rfl
theorem or_swap (a b c : Nat) : a ||| b ||| c = a ||| c ||| b := by rw [Nat.or_assoc, Nat.or_comm b c, ← Nat.or_assoc]
theorem wpS_take {i : Nat} {oi : Oper} {v : Value} {Y : World → Prop} (hi : l[i]? = some oi) (hsel : Region.noSelect l.toArray = true) (hA : ancOk A 0 l = true) :
    ∀ (n done : Nat) (T : Tk) (a : Act) (w : World), Closed A done → (∀ j oj, l[j]? = some oj → j ≠ i → done.testBit j = false → (A.getD j 0).testBit i = false → oi.apart l.toArray oj = true) →
      rdyB l done i = true → YieldsIf P l.toArray Y oi v a → Y w → Tk.all T w → wpS P l A Q n (done ||| (1 <<< i)) ((i, Y) :: T) (a.put oi.dst v) w → wpS P l A Q (n + 1) done T a w := by
  intro n
  have hi' : l.toArray[i]? = some oi := by rw [List.getElem?_toArray]; exact hi
  have hs := Region.noSelect_spec hsel
  have first : ∀ (n done : Nat) (T : Tk) (a : Act) (w : World), YieldsIf P l.toArray Y oi v a → Y w → Tk.all T w → wpS P l A Q n (done ||| (1 <<< i)) ((i, Y) :: T) (a.put oi.dst v) w →
      wpOp P l.toArray (QN Q) i (fun a' w' => (T.keep A i).all w' ∧ wpS P l A Q n (done ||| (1 <<< i)) (T.keep A i) a' w') a w := fun n done T a w hy hY hT H =>
    hy.wpOp hi' hY ⟨Tk.keepK hT, wpS_sub (List.filter_sublist.trans (List.sublist_cons_self _ _)) H⟩
  induction n with
  | zero =>
    intro done T a w hc hfree hr hy hY hT H
    refine ⟨fun h => (by have := mem_rdyL.2 hr; rw [h] at this; cases this), fun k hk => ?_⟩
    by_cases hki : k = i
    · subst hki; exact first 0 done T a w hy hY hT H
    · have := mem_rdyL.2 (rdyB_add (mem_rdyL.1 hk) hki)
      rw [H.1] at this; cases this
  | succ n ih =>
    intro done T a w hc hfree hr hy hY hT H
    refine ⟨fun h => (by have := mem_rdyL.2 hr; rw [h] at this; cases this), fun k hk => ?_⟩
    by_cases hki : k = i
    · subst hki; exact first _ done T a w hy hY hT H
    · have hkr := mem_rdyL.1 hk
      obtain ⟨hkd, ok, hok, _⟩ := rdyB_spec.1 hkr
      have hnot : (A.getD k 0).testBit i = false := by
        cases hb : (A.getD k 0).testBit i with
        | false => rfl
        | true => have := ready_anc hA hc hkr hb; rw [(rdyB_spec.1 hr).1] at this; cases this
      have hkeep : Tk.keep A k ((i, Y) :: T) = (i, Y) :: Tk.keep A k T := by unfold Tk.keep; rw [List.filter_cons]; rw [if_pos (by simpa using hnot)]
      have h1 := H.2 k (mem_rdyL.2 (rdyB_add hkr hki))
      have h2 := wpOp_putIf (by rw [List.getElem?_toArray]; exact hok) (hfree k ok hok hki hkd hnot) (fun cs b => hs i oi cs b hi') (fun cs b => hs k ok cs b (by rw [List.getElem?_toArray]; exact hok)) (fun _ _ _ h => h) hy h1
      refine wpOp_mono (fun a' w' ⟨g1, g2, g3⟩ => ?_) h2
      rw [hkeep] at g2 g3
      have gT : (Tk.keep A k T).all w' := Tk.sub (List.sublist_cons_self _ _) g2
      refine ⟨gT, ih (done ||| (1 <<< k)) _ a' w' (hc.add hA hkr) (fun j oj hj hji hd ha => hfree j oj hj hji ?_ ha) (rdyB_add hr (Ne.symm hki)) g1 (g2 (i, Y) (by simp)) gT ?_⟩
      · rw [testBit_add, Bool.or_eq_false_iff] at hd; exact hd.1
      · rw [or_swap]; exact g3
end

/-! ### With frames -/
structure Good (l : List Oper) (A : List Nat) (done : Nat) : Prop where
  sel : Region.noSelect l.toArray = true
  anc : ancOk A 0 l = true
  cl : Closed A done
def WD (P : Program) (l : List Oper) (A : List Nat) (Q : Act → World → Prop) (N n done : Nat) (T : Tk) (e : Env) (w : World) : Prop :=
  Good l A done → T.all w → ∀ a, Fr N a e → wpS P l A Q n done T a w
def freeFrom (l : List Oper) (A : List Nat) (done i : Nat) (oi : Oper) : Nat → List Oper → Bool
  | _, [] => true
  | j, oj :: r => (Nat.beq j i || done.testBit j || (A.getD j 0).testBit i || oi.apart l.toArray oj) && freeFrom l A done i oi (j + 1) r
theorem freeFrom_get {l : List Oper} {A : List Nat} {done i : Nat} {oi : Oper} : ∀ {r : List Oper} {k : Nat}, freeFrom l A done i oi k r = true → ∀ {j : Nat} {oj : Oper}, r[j]? = some oj → k + j ≠ i → done.testBit (k + j) = false → (A.getD (k + j) 0).testBit i = false → oi.apart l.toArray oj = true
  | [], _, _, j, oj, h => by simp at h
  | x :: r, k, hf, j, oj, h => by
    simp only [freeFrom, Bool.and_eq_true] at hf
    intro h1 h2 h3
    cases j with
    | zero =>
      simp at h; subst h
      have h4 := hf.1
      simp only [Nat.add_zero] at h1 h2 h3
      rw [beq_false h1, h2, h3] at h4
      simpa using h4
    | succ j =>
      have e : k + 1 + j = k + (j + 1) := by omega
      exact freeFrom_get hf.2 (j := j) (oj := oj) (by simpa using h) (by rw [e]; exact h1) (by rw [e]; exact h2) (by rw [e]; exact h3)
/-- Number i may be taken. -/
def tkB (l : List Oper) (A : List Nat) (done i : Nat) : Bool := rdyB l done i && match l[i]? with | none => false | some oi => freeFrom l A done i oi 0 l
section
variable {P : Program} {l : List Oper} {A : List Nat} {Q : Act → World → Prop} {N n done done' : Nat} {T T' : Tk} {e : Env} {w w0 : World} {G0 G : Gh} {d : Option Tmp} {op : Op} {ty : TypeId} {pos : String} {af : Array Edge} {v : Value} {bl : List Bx}
theorem execOp_guard (ρ : Operand → Value) (g g' : Option (Nat × Bool)) : execOp ρ ⟨d, op, ty, pos, af, g⟩ = execOp ρ ⟨d, op, ty, pos, af, g'⟩ := by
  cases op <;> rfl
theorem wdTakeY (i : Nat) {gd : Option (Nat × Bool)} (Y : World → Prop) (hi : l[i]? = some ⟨d, op, ty, pos, af, gd⟩) (hk : tkB l A done i = true) (hd' : done ||| (1 <<< i) = done')
    (hy : ∀ a, Fr N a e → YieldsIf P l.toArray Y ⟨d, op, ty, pos, af, gd⟩ v a) (hY : Y w) (hd : okD N d = true) (h : WD P l A Q N n done' ((i, Y) :: T) (e.putO d v) w) : WD P l A Q N (n + 1) done T e w := by
  intro hG hT a ha
  subst hd'
  unfold tkB at hk
  rw [hi] at hk
  simp only [Bool.and_eq_true] at hk
  refine wpS_take hi hG.sel hG.anc n done T a w hG.cl (fun j oj hj h1 h2 h3 => ?_) hk.1 (hy a ha) hY hT ?_
  · have := freeFrom_get hk.2 hj
    rw [Nat.zero_add] at this
    exact this h1 h2 h3
  · exact h ⟨hG.sel, hG.anc, hG.cl.add hG.anc hk.1⟩ (Tk.cons hY hT) _ (ha.put hd v)
/-- An operation that but reads is taken ahead. -/
theorem wdTake (i : Nat) (hi : l[i]? = some ⟨d, op, ty, pos, af, none⟩) (hk : tkB l A done i = true) (hd' : done ||| (1 <<< i) = done') (hop : OpVal P N e w ⟨d, op, ty, pos, af, none⟩ v) (hd : okD N d = true)
    (h : WD P l A Q N n done' ((i, fun w => OpVal P N e w ⟨d, op, ty, pos, af, none⟩ v) :: T) (e.putO d v) w) : WD P l A Q N (n + 1) done T e w :=
  wdTakeY i _ hi hk hd' (fun a ha => .inl ⟨rfl, fun _ hw => hw a ha⟩) hop hd h
theorem wdTakeG (i : Nat) {j k : Nat} {b : Bool} (hi : l[i]? = some ⟨d, op, ty, pos, af, some (j, b)⟩) (hk : tkB l A done i = true) (hd' : done ||| (1 <<< i) = done') (hj : gslot l.toArray j = some k) (hb : e k = some (.bool b)) (hop : OpVal P N e w ⟨d, op, ty, pos, af, none⟩ v) (hd : okD N d = true)
    (h : WD P l A Q N n done' ((i, fun w => OpVal P N e w ⟨d, op, ty, pos, af, none⟩ v) :: T) (e.putO d v) w) : WD P l A Q N (n + 1) done T e w :=
  wdTakeY i _ hi hk hd' (fun a ha => .inl ⟨by simp only [Region.wanted]; rw [yielded_of ha hj hb]; simp, fun _ hw => by rw [execOp_guard _ _ none]; exact hw a ha⟩) hop hd h
theorem WD.drop {p : Nat × (World → Prop)} (h : WD P l A Q N n done T e w) (hp : ∀ w, p.2 w) : WD P l A Q N n done (p :: T) e w := by
  have key : ∀ (n done : Nat) (T T' : Tk) (a : Act) (w : World), (∀ q ∈ T', q ∈ T ∨ ∀ w, q.2 w) → wpS P l A Q n done T a w → wpS P l A Q n done T' a w := by
    intro n
    induction n with
    | zero => intro done T T' a w _ h; exact h
    | succ n ih =>
      intro done T T' a w hs h
      have hs' : ∀ k, ∀ q ∈ Tk.keep A k T', q ∈ Tk.keep A k T ∨ ∀ w, q.2 w := fun k q hq => by
        unfold Tk.keep at *
        rw [List.mem_filter] at hq ⊢
        rcases hs q hq.1 with h1 | h1
        · exact .inl ⟨h1, hq.2⟩
        · exact .inr h1
      refine ⟨h.1, fun k hk => wpOp_mono (fun a w ⟨h1, h2⟩ => ⟨fun q hq => ?_, ih _ _ _ a w (hs' k) h2⟩) (h.2 k hk)⟩
      rcases hs' k q hq with h3 | h3
      · exact h1 q h3
      · exact h3 w
  intro hG hT a ha
  refine key _ _ T _ a w (fun q hq => ?_) (h hG (Tk.sub (List.sublist_cons_self _ _) hT) a ha)
  rcases List.mem_cons.1 hq with rfl | hq
  · exact .inr hp
  · exact .inl hq
/-- .. that does not look at memory. -/
theorem wdRo (i : Nat) (hi : l[i]? = some ⟨d, op, ty, pos, af, none⟩) (hk : tkB l A done i = true) (hd' : done ||| (1 <<< i) = done') (hop : ∀ w, OpVal P N e w ⟨d, op, ty, pos, af, none⟩ v) (hd : okD N d = true)
    (h : WD P l A Q N n done' T (e.putO d v) w) : WD P l A Q N (n + 1) done T e w :=
  wdTakeY i (fun _ => True) hi hk hd' (fun a ha => .inl ⟨rfl, fun w _ => hop w a ha⟩) trivial hd (h.drop fun _ => trivial)
theorem wdRoG (i : Nat) {j k : Nat} {b : Bool} (hi : l[i]? = some ⟨d, op, ty, pos, af, some (j, b)⟩) (hk : tkB l A done i = true) (hd' : done ||| (1 <<< i) = done') (hj : gslot l.toArray j = some k) (hb : e k = some (.bool b)) (hop : ∀ w, OpVal P N e w ⟨d, op, ty, pos, af, none⟩ v) (hd : okD N d = true)
    (h : WD P l A Q N n done' T (e.putO d v) w) : WD P l A Q N (n + 1) done T e w :=
  wdTakeY i (fun _ => True) hi hk hd' (fun a ha => .inl ⟨by simp only [Region.wanted]; rw [yielded_of ha hj hb]; simp, fun w _ => by rw [execOp_guard _ _ none]; exact hop w a ha⟩) trivial hd (h.drop fun _ => trivial)
theorem wdOff (i : Nat) {j k : Nat} {b b' : Bool} (hi : l[i]? = some ⟨d, op, ty, pos, af, some (j, b)⟩) (hk : tkB l A done i = true) (hd' : done ||| (1 <<< i) = done') (hj : gslot l.toArray j = some k) (hb : e k = some (.bool b')) (hne : (b' == b) = false) (hd : okD N d = true)
    (h : WD P l A Q N n done' T (e.putO d undef) w) : WD P l A Q N (n + 1) done T e w :=
  wdTakeY i (fun _ => True) hi hk hd' (fun a ha => .inr ⟨by simp only [Region.wanted]; rw [yielded_of ha hj hb]; simpa using hne, rfl⟩) trivial hd (h.drop fun _ => trivial)
theorem wdOffU (i : Nat) {j k : Nat} {b : Bool} (hi : l[i]? = some ⟨d, op, ty, pos, af, some (j, b)⟩) (hk : tkB l A done i = true) (hd' : done ||| (1 <<< i) = done') (hj : gslot l.toArray j = some k) (hb : e k = some undef) (hd : okD N d = true)
    (h : WD P l A Q N n done' T (e.putO d undef) w) : WD P l A Q N (n + 1) done T e w :=
  wdTakeY i (fun _ => True) hi hk hd' (fun a ha => .inr ⟨by
    have h2 := ha.at_ k _ hb
    have hy : yielded l.toArray a.tmps j = none := by simp only [gslot] at hj; simp only [yielded, hj, Option.bind_some, h2]; rfl
    simp only [Region.wanted, hy]; rfl, rfl⟩) trivial hd (h.drop fun _ => trivial)
/-- One of those that may come. -/
def WD1 (P : Program) (l : List Oper) (A : List Nat) (Q : Act → World → Prop) (N n done : Nat) (T : Tk) (e : Env) (w : World) (k : Nat) : Prop :=
  Good l A (done ||| (1 <<< k)) → T.all w → ∀ a, Fr N a e → wpOp P l.toArray (QN Q) k (fun a' w' => (T.keep A k).all w' ∧ wpS P l A Q n (done ||| (1 <<< k)) (T.keep A k) a' w') a w
def WDs (P : Program) (l : List Oper) (A : List Nat) (Q : Act → World → Prop) (N n done : Nat) (T : Tk) (e : Env) (w : World) : List Nat → Prop
  | [] => True
  | k :: r => WD1 P l A Q N n done T e w k ∧ WDs P l A Q N n done T e w r
theorem WDs.get {ks : List Nat} (h : WDs P l A Q N n done T e w ks) : ∀ k ∈ ks, WD1 P l A Q N n done T e w k := by
  induction ks with
  | nil => intro k hk; cases hk
  | cons x r ih =>
    intro k hk
    rcases List.mem_cons.1 hk with rfl | hk
    · exact h.1
    · exact ih h.2 k hk
theorem wdAll (ks : List Nat) (hr : rdyL l done = ks) (hne : ks.isEmpty = false) (h : WDs P l A Q N n done T e w ks) : WD P l A Q N (n + 1) done T e w := by
  intro hG hT a ha
  refine ⟨fun h0 => ?_, fun k hk => ?_⟩
  · rw [← hr, h0] at hne; cases hne
  · have hk' := mem_rdyL.1 hk
    rw [hr] at hk
    exact h.get k hk ⟨hG.sel, hG.anc, hG.cl.add hG.anc hk'⟩ hT a ha
theorem Oper.wp_QN {o : Oper} {a : Act} {K : Act → World → Prop} {Q1 Q2 : Act → World → Prop} (h : o.wp P a w K (QN Q1)) : o.wp P a w K (QN Q2) := by
  unfold Oper.wp at *
  generalize (execOp a.eval o).run P w = r at *
  cases r with
  | ok n w' =>
    cases n <;> simp only [Oper.upon] at h ⊢ <;>
      first
        | exact h
        | exact Calls.mono h (fun e w'' he => by cases e <;> first | exact he | exact he.elim)
  | halt x w' => cases x <;> simp only [Oper.upon] at h ⊢ <;> exact h
theorem wd1 {k : Nat} {o : Oper} (ho : l[k]? = some o)
    (h : Good l A (done ||| (1 <<< k)) → WL P l.toArray (QN (fun a' w' => (T.keep A k).all w' ∧ wpS P l A Q n (done ||| (1 <<< k)) (T.keep A k) a' w')) N [o] e w) : WD1 P l A Q N n done T e w k := by
  intro hG hT a ha
  have h1 := h hG a ha
  unfold wpOp
  rw [List.getElem?_toArray, ho]
  simp only []
  unfold wpList at h1
  split
  · rename_i hw
    rw [if_pos hw] at h1
    rcases h1 with h1 | ⟨h1, h2⟩
    · exact .inl (Oper.wp_QN h1)
    · exact .inr ⟨h1, h2⟩
  · rename_i hw
    rw [if_neg hw] at h1
    exact h1
theorem wdNext {k : Nat} {ops : Array Oper} (hG : Good l A (done ||| (1 <<< k))) (hd' : done ||| (1 <<< k) = done') (hK : T.keep A k = T') (hT : T'.all w) (h : WD P l A Q N n done' T' e w) :
    WL P ops (QN (fun a' w' => (T.keep A k).all w' ∧ wpS P l A Q n (done ||| (1 <<< k)) (T.keep A k) a' w')) N [] e w := by
  subst hd' hK
  exact fun a ha => ⟨hT, h hG hT a ha⟩
theorem wdDone (hr : rdyL l done = []) (h : ∀ a, Fr N a e → Q a w) : WD P l A Q N n done T e w := by
  intro _ _ a ha
  cases n with
  | zero => exact ⟨hr, h a ha⟩
  | succ n => exact ⟨fun _ => h a ha, fun k hk => by rw [hr] at hk; cases hk⟩
theorem wcDrawS {id : Nat} {Q : Exit → Act → World → Prop} (n : Nat) (A : List Nat) (hm : P.follows .mixedOrders = true) (hA : ancOk A 0 l = true) (hs : Region.noSelect l.toArray = true) (hn : l.length = n) (hC : Cx w0 G0 G w M) (hB : Bxs G w w0.heap.size bl M)
    (h : ∀ w', Cx w0 G0 G w' M → Bxs G w' w0.heap.size bl M → WD P l A (fun a w => Q .normal a w) N n 0 [] e w') : WC P Q N (.region id l.toArray true) e w := by
  intro a ha
  refine Code.wp_mono (Q := QN (fun a w => Q .normal a w)) (fun e a w h => by cases e <;> first | exact h | exact h.elim) ?_
  refine wp_region_any hm ?_
  have hsz : l.toArray.size = l.length := by simp
  rw [hsz, hn]
  refine wpAny_of_S (by simp [hn]) (fun i => ?_) (h w.drew hC.drew hB.drew ⟨hs, hA, fun j hj => by simp at hj⟩ (Tk.nil _) a ha)
  rw [Array.getD_eq_getD_getElem?, Array.getElem?_replicate]
  split <;> simp
end
end Go.Gx
