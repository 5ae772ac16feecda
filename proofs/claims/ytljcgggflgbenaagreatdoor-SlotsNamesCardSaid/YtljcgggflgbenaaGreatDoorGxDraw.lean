/- A region whose order Go leaves open: each operation shown in whatever order the edges allow. No condition. -/
import Derived.Test.YtljcgggflgbenaaGreatDoorGxEq
import Derived.Orders
set_option linter.all false
namespace Go.Gx
open Go Go.RowKit
variable {M : Mu}

abbrev Done := Nat → Bool
def Done.set (done : Done) (i : Nat) : Done := fun j => if j = i then true else done j

def dstsOk (N : Nat) : List Oper → Bool
  | [] => true
  | o :: r => okD N o.dst && (match o.dst with | some d => r.all (fun x => !(x.dst == some d)) | none => true) && dstsOk N r
/-- The frame in the midst of a region. -/
structure Mid (l : List Oper) (N : Nat) (e : Env) (V : Nat → Gh → Value → Prop) (done : Done) (G : Gh) (a : Act) : Prop where
  sz : a.tmps.size = N
  df : a.defers = []
  old : ∀ s v, e s = some v → (∀ j o, l[j]? = some o → o.dst = some s → done j = false) → a.tmps[s]? = some v
  new : ∀ j o d, l[j]? = some o → done j = true → o.dst = some d → ∃ v, a.tmps[d]? = some v ∧ V j G v
  dk : dstsOk N l = true

/-- What is asked of operation k. -/
def DStep (P : Program) (l : List Oper) (N : Nat) (e : Env) (V : Nat → Gh → Value → Prop) (C : Done → Act → Gh → World → Prop) (k : Nat) (o : Oper) : Prop :=
  ∀ (done : Done) (G : Gh) (w : World) (a : Act), done k = false → (∀ x ∈ o.after.toList, Region.binds .any x = true → done x.on = true) →
    (∀ j oj, l[j]? = some oj → (∃ x ∈ oj.after.toList, Region.binds .any x = true ∧ x.on = k) → done j = false) → C done a G w → Mid l N e V done G a →
    if Region.wanted o (yielded l.toArray a.tmps) then OpR P o a w (fun v w' => ∃ G', GLe G G' ∧ C (done.set k) (a.put o.dst v) G' w' ∧ V k G' v)
    else C (done.set k) (a.put o.dst undef) G w ∧ V k G undef
def DSteps (P : Program) (l : List Oper) (N : Nat) (e : Env) (V : Nat → Gh → Value → Prop) (C : Done → Act → Gh → World → Prop) : Nat → List Oper → Prop
  | _, [] => True
  | k, o :: r => DStep P l N e V C k o ∧ DSteps P l N e V C (k + 1) r
theorem DSteps.get {P : Program} {l : List Oper} {N : Nat} {e : Env} {V : Nat → Gh → Value → Prop} {C : Done → Act → Gh → World → Prop} : ∀ {r : List Oper} {k : Nat}, DSteps P l N e V C k r → ∀ {i : Nat} {o : Oper}, r[i]? = some o → DStep P l N e V C (k + i) o
  | [], _, _, i, o, h => by simp at h
  | x :: r, k, ⟨h1, h2⟩, i, o, h => by
    cases i with
    | zero => simp at h; subst h; exact h1
    | succ i => have := DSteps.get h2 (i := i) (o := o) (by simpa using h); rwa [show k + 1 + i = k + (i + 1) from by omega] at this

def acyclicFrom : Nat → List Oper → Bool
  | _, [] => true
  | k, o :: r => (o.after.toList.all fun x => Nat.blt x.on k || !Region.binds .any x) && acyclicFrom (k + 1) r
theorem acyclicFrom_get : ∀ {r : List Oper} {k : Nat}, acyclicFrom k r = true → ∀ {i : Nat} {o : Oper}, r[i]? = some o → ∀ x ∈ o.after.toList, Region.binds .any x = true → x.on < k + i
  | [], _, _, i, o, h => by simp at h
  | y :: r, k, hac, i, o, h => by
    simp only [acyclicFrom, Bool.and_eq_true, List.all_eq_true] at hac
    cases i with
    | zero =>
      simp at h; subst h
      intro x hx hb
      have := hac.1 x hx
      rw [hb] at this
      simp only [Bool.not_true, Bool.or_false] at this
      have : x.on < k := Nat.le_of_ble_eq_true this
      omega
    | succ i =>
      intro x hx hb
      have := acyclicFrom_get hac.2 (i := i) (o := o) (by simpa using h) x hx hb
      omega
theorem dstsOk_get {N : Nat} : ∀ {l : List Oper}, dstsOk N l = true → (∀ (i : Nat) (o : Oper), l[i]? = some o → okD N o.dst = true) ∧ (∀ (i j : Nat) (oi oj : Oper) (d : Nat), l[i]? = some oi → l[j]? = some oj → oi.dst = some d → oj.dst = some d → i = j)
  | [], _ => ⟨fun i o h => by simp at h, fun i j oi oj d h => by simp at h⟩
  | x :: r, h => by
    simp only [dstsOk, Bool.and_eq_true] at h
    obtain ⟨⟨h1, h2⟩, h3⟩ := h
    obtain ⟨k1, k2⟩ := dstsOk_get h3
    constructor
    · intro i o hi
      cases i with
      | zero => simp at hi; subst hi; exact h1
      | succ i => exact k1 i o (by simpa using hi)
    · intro i j oi oj d hi hj di dj
      cases i with
      | zero =>
        cases j with
        | zero => rfl
        | succ j =>
          simp at hi; subst hi
          rw [di] at h2
          simp only [List.all_eq_true] at h2
          have := h2 oj (List.mem_of_getElem? (by simpa using hj : r[j]? = some oj))
          simp [dj] at this
      | succ i =>
        cases j with
        | zero =>
          simp at hj; subst hj
          rw [dj] at h2
          simp only [List.all_eq_true] at h2
          have := h2 oi (List.mem_of_getElem? (by simpa using hi : r[i]? = some oi))
          simp [di] at this
        | succ j => have := k2 i j oi oj d (by simpa using hi) (by simpa using hj) di dj; omega

theorem wcDraw {P : Program} {Q : Exit → Act → World → Prop} {N : Nat} {e : Env} {w : World} {id : Nat} {l : List Oper} (hm : P.follows .mixedOrders = true) (hac : acyclicFrom 0 l = true) (hd : dstsOk N l = true)
    (V : Nat → Gh → Value → Prop) (C : Done → Act → Gh → World → Prop) (G : Gh) (hV : ∀ i G G' v, GLe G G' → V i G v → V i G' v) (hC0 : ∀ a, Fr N a e → C (fun _ => false) a G w.drew)
    (hs : DSteps P l N e V C 0 l) (hend : ∀ (done : Done) G w a, (∀ i, i < l.length → done i = true) → C done a G w → Mid l N e V done G a → ∃ e', Fr N a e' ∧ ∀ a, Fr N a e' → Q .normal a w) : WC P Q N (.region id l.toArray true) e w := by
  obtain ⟨hok, huniq⟩ := dstsOk_get hd
  intro a ha
  refine wp_region_any hm ?_
  have hsz : l.toArray.size = l.length := by simp
  -- whoever waits for nothing more is ready
  have hready : ∀ listed : Array Bool, listed.size = l.length → Region.ready .any l.toArray listed = [] → ∀ i, i < l.length → listed.getD i false = true := by
    intro listed hls hr i
    induction i using Nat.strongRecOn with
    | ind i ih =>
      intro hi
      cases hd : listed.getD i false with
      | true => rfl
      | false =>
        exfalso
        have hmem : i ∈ Region.ready .any l.toArray listed := by
          unfold Region.ready
          rw [List.mem_filter]
          refine ⟨by simp [hi], ?_⟩
          have h1 : listed.getD i true = false := by
            rw [Array.getD_eq_getD_getElem?, Array.getElem?_eq_getElem (by omega)] at hd ⊢
            simpa using hd
          rw [h1]
          simp only [Bool.not_false, Bool.true_and]
          rw [List.getElem?_toArray, List.getElem?_eq_getElem hi]
          simp only [Option.map_some, Option.getD_some, Array.all_eq_true_iff_forall_mem]
          intro x hx
          cases hb : Region.binds .any x with
          | false => simp
          | true =>
            have := acyclicFrom_get hac (i := i) (o := l[i]) (List.getElem?_eq_getElem hi) x (by simpa using hx) hb
            simp only [Bool.not_true, Bool.false_or]
            exact ih x.on (by omega) (by omega)
        rw [hr] at hmem
        cases hmem
  have key : ∀ (fuel : Nat) (listed : Array Bool) (G : Gh) (a : Act) (w : World), listed.size = l.length → (listed.toList.countP (fun b => !b)) = fuel → C (fun i => listed.getD i false) a G w →
      Mid l N e V (fun i => listed.getD i false) G a → (∀ j oj, l[j]? = some oj → listed.getD j false = true → ∀ x ∈ oj.after.toList, Region.binds .any x = true → listed.getD x.on false = true) → wpAny P .any l.toArray Q fuel listed a w := by
    intro fuel
    induction fuel with
    | zero =>
      intro listed G a w hls hcnt hC hM hcl
      have hall : ∀ i, i < l.length → listed.getD i false = true := by
        intro i hi
        rw [List.countP_eq_zero] at hcnt
        have hil : i < listed.size := by omega
        have := hcnt listed[i] (by simp)
        rw [Array.getD_eq_getD_getElem?, Array.getElem?_eq_getElem hil]
        simpa using this
      refine ⟨?_, by obtain ⟨e', h1, h2⟩ := hend _ G w a hall hC hM; exact h2 a h1⟩
      unfold Region.ready
      rw [List.filter_eq_nil_iff]
      intro i hi
      have hi' : i < l.length := by simpa using hi
      have := hall i hi'
      have h1 : listed.getD i true = true := by
        rw [Array.getD_eq_getD_getElem?, Array.getElem?_eq_getElem (by omega)] at this ⊢
        simpa using this
      simp [h1]
    | succ fuel ih =>
      intro listed G a w hls hcnt hC hM hcl
      refine ⟨fun hr => by obtain ⟨e', h1, h2⟩ := hend _ G w a (hready listed hls hr) hC hM; exact h2 a h1, fun i hi => ?_⟩
      unfold Region.ready at hi
      rw [List.mem_filter] at hi
      obtain ⟨hir, hi⟩ := hi
      have hil : i < l.length := by simpa using hir
      simp only [Bool.and_eq_true, Bool.not_eq_true'] at hi
      obtain ⟨hi1, hi2⟩ := hi
      have ho : l[i]? = some l[i] := List.getElem?_eq_getElem hil
      have hdi : listed.getD i false = false := by
        rw [Array.getD_eq_getD_getElem?, Array.getElem?_eq_getElem (by omega)] at hi1 ⊢
        simpa using hi1
      have hpre : ∀ x ∈ l[i].after.toList, Region.binds .any x = true → listed.getD x.on false = true := by
        rw [List.getElem?_toArray, ho] at hi2
        simp only [Option.map_some, Option.getD_some, Array.all_eq_true_iff_forall_mem] at hi2
        intro x hx hb
        have := hi2 x (by simpa using hx)
        rw [hb] at this
        simpa using this
      have hns : ∀ j oj, l[j]? = some oj → (∃ x ∈ oj.after.toList, Region.binds .any x = true ∧ x.on = i) → listed.getD j false = false := by
        rintro j oj hj ⟨x, hx, hb, hxi⟩
        cases hd : listed.getD j false with
        | false => rfl
        | true =>
          have := hcl j oj hj hd x hx hb
          rw [hxi, hdi] at this
          cases this
      have hset : (fun j => (listed.setIfInBounds i true).getD j false) = Done.set (fun j => listed.getD j false) i := by
        funext j
        unfold Done.set
        rw [Array.getD_eq_getD_getElem?, Array.getElem?_setIfInBounds]
        by_cases hji : i = j
        · subst hji; simp [show i < listed.size by omega]
        · rw [if_neg hji, if_neg (Ne.symm hji)]; simp [Array.getD_eq_getD_getElem?]
      have hcnt' : ((listed.setIfInBounds i true).toList.countP (fun b => !b)) = fuel := by
        have hlt : i < listed.toList.length := by simp; omega
        rw [Array.toList_setIfInBounds]
        have h2 : listed.toList[i] = false := by
          rw [Array.getD_eq_getD_getElem?, Array.getElem?_eq_getElem (by omega)] at hdi
          simpa using hdi
        have := List.countP_set (p := fun b => !b) (l := listed.toList) (i := i) (a := true) hlt
        rw [this, h2, hcnt]
        simp
      have hst : DStep P l N e V C i l[i] := by have := hs.get ho; rwa [Nat.zero_add] at this
      have hst := hst _ G w a hdi hpre hns hC hM
      have hcl' : ∀ j oj, l[j]? = some oj → (listed.setIfInBounds i true).getD j false = true → ∀ x ∈ oj.after.toList, Region.binds .any x = true → (listed.setIfInBounds i true).getD x.on false = true := by
        intro j oj hj hdj x hx hb
        have e1 := congrFun hset j
        have e2 := congrFun hset x.on
        simp only [Done.set] at e1 e2
        rw [e2]
        split
        · rfl
        · rw [e1] at hdj
          by_cases hji : j = i
          · subst hji
            rw [ho] at hj
            simp at hj; subst hj
            exact hpre x hx hb
          · rw [if_neg hji] at hdj
            exact hcl j oj hj hdj x hx hb
      have hmid : ∀ (G' : Gh) (v : Value), GLe G G' → V i G' v → Mid l N e V (fun j => (listed.setIfInBounds i true).getD j false) G' (a.put l[i].dst v) := by
        intro G' v hg hVi
        rw [hset]
        refine ⟨?_, ?_, ?_, ?_, hd⟩
        · cases l[i].dst <;> simp [Act.put, hM.sz]
        · cases l[i].dst <;> simp [Act.put, hM.df]
        · intro s u hu hno
          have hne : l[i].dst ≠ some s := by
            intro h
            have := hno i l[i] ho h
            simp [Done.set] at this
          have h1 := hM.old s u hu (fun j o hj hds => by
            have := hno j o hj hds
            unfold Done.set at this
            split at this
            · cases this
            · exact this)
          cases hdst : l[i].dst with
          | none => simpa [Act.put] using h1
          | some d =>
            simp only [Act.put]
            rw [Array.getElem?_setIfInBounds_ne (by rintro rfl; exact hne hdst)]
            exact h1
        · intro j o d hj hdj hds
          by_cases hji : j = i
          · subst hji
            rw [ho] at hj
            simp at hj; subst hj
            have hlt : d < N := by
              have := hok j l[j] ho
              rw [hds] at this
              exact Nat.le_of_ble_eq_true this
            exact ⟨v, by rw [hds]; simp [Act.put, hM.sz, hlt], hVi⟩
          · have hdj' : listed.getD j false = true := by
              unfold Done.set at hdj
              rwa [if_neg hji] at hdj
            obtain ⟨u, hu, hVu⟩ := hM.new j o d hj hdj' hds
            refine ⟨u, ?_, hV _ _ _ _ hg hVu⟩
            cases hdst : l[i].dst with
            | none => simpa [Act.put] using hu
            | some d2 =>
              simp only [Act.put]
              rw [Array.getElem?_setIfInBounds_ne (by rintro rfl; exact hji (huniq _ _ _ _ _ hj ho hds hdst))]
              exact hu
      unfold wpOp
      have hget : l.toArray[i]? = some l[i] := by rw [List.getElem?_toArray]; exact ho
      rw [hget]
      simp only []
      split
      · rename_i hw
        rw [if_pos hw] at hst
        refine .inl (hst.wp fun v w' ⟨G', hg, hC', hVi⟩ => ?_)
        exact ih (listed.setIfInBounds i true) G' (a.put l[i].dst v) w' (by simpa using hls) hcnt' (by rw [hset]; exact hC') (hmid G' v hg hVi) hcl'
      · rename_i hw
        rw [if_neg hw] at hst
        exact ih (listed.setIfInBounds i true) G (a.put l[i].dst undef) w (by simpa using hls) hcnt' (by rw [hset]; exact hst.1) (hmid G undef (fun _ _ h => h) hst.2) hcl'
  refine key l.length (Array.replicate l.length false) G a _ (by simp) (by simp [List.countP_replicate]) ?_ ?_ ?_
  · have : (fun i => (Array.replicate l.length false).getD i false) = (fun _ => false) := by
      funext i
      rw [Array.getD_eq_getD_getElem?, Array.getElem?_replicate]
      split <;> rfl
    rw [this]; exact hC0 a ha
  · have hf : ∀ i, (Array.replicate l.length false).getD i false = false := by
      intro i
      rw [Array.getD_eq_getD_getElem?, Array.getElem?_replicate]
      split <;> rfl
    exact ⟨ha.sz, ha.df, fun s v hv _ => ha.at_ s v hv, fun j o d _ hj _ => (by rw [hf] at hj; cases hj), hd⟩
  · intro j oj _ hj
    rw [Array.getD_eq_getD_getElem?, Array.getElem?_replicate] at hj
    split at hj <;> cases hj

/-! ### What the steps are shown by -/
section
variable {P : Program} {l : List Oper} {N : Nat} {e : Env} {V : Nat → Gh → Value → Prop} {done : Done} {G : Gh} {a : Act} {w : World}
theorem Mid.fr (h : Mid l N e V done G a) : Fr N a Env.nil := Fr.nil h.sz h.df
theorem Fr.add {e' : Env} {t : Nat} {v : Value} (h : Fr N a e') (hv : a.tmps[t]? = some v) : Fr N a (e'.put t v) := by
  refine ⟨h.sz, h.df, fun u x hu => ?_⟩
  simp only [Env.put] at hu
  by_cases hut : u = t
  · subst hut
    simp [Nat.beq_refl] at hu
    subst hu
    exact hv
  · rw [beq_false hut] at hu
    exact h.at_ _ _ hu
theorem Mid.old0 (h : Mid l N e V done G a) {s : Nat} {v : Value} (hv : e s = some v) (hn : (l.all fun o => match o.dst with | some d => !(Nat.beq d s) | none => true) = true) : a.tmps[s]? = some v :=
  h.old s v hv fun j o hj hd => by
    have := List.all_eq_true.1 hn o (List.mem_of_getElem? hj)
    rw [hd] at this
    simp at this
theorem wantNone {d : Option Tmp} {op : Op} {ty : TypeId} {pos : String} {af : Array Edge} {y : Nat → Option Bool} : Region.wanted ⟨d, op, ty, pos, af, none⟩ y = true := rfl
theorem OpVal.draw {o : Oper} {v : Value} {R : Value → World → Prop} (hF : Fr N a e) (h : OpVal P N e w o v) (hR : R v w) : OpR P o a w R := by unfold OpR; rw [h a hF]; exact hR
theorem OpRun.draw {o : Oper} {R R' : Value → World → Prop} (hF : Fr N a e) (h : OpRun P N e w o R) (hR : ∀ v w', R v w' → R' v w') : OpR P o a w R' := (h a hF).mono hR
theorem drawCallS {d : Option Tmp} {ty : TypeId} {pos : String} {af : Array Edge} {gd : Option (Nat × Bool)} {x : Operand} {f : FuncId} {xs : List Operand} {vs caps first : List Value} {ats : Array TypeId} {v : Value} {R : Value → World → Prop}
    (hF : Fr N a e) (hx : opv e x = some (.func (.func f) first.toArray caps.toArray)) (hf : callOk P f = true) (hvs : opvs e xs = some vs) (hc : RetS P f (first ++ vs ++ caps).toArray G w v) (hR : ∀ w', Cx w G G w' → R v w') :
    OpR P ⟨d, .call ⟨.value x, xs.toArray, ats⟩, ty, pos, af, gd⟩ a w R :=
  opCall (R := R) hx hf hvs (Calls.mono hc fun _ w' ⟨h1, h2⟩ => ⟨v, h1, hR w' h2⟩) a hF
end

/-! ### Steps, whole -/
def vAt : List (Gh → Value → Prop) → Nat → Gh → Value → Prop
  | [], _ => fun _ _ => True
  | x :: _, 0 => x
  | _ :: r, i + 1 => vAt r i
def vMono : List (Gh → Value → Prop) → Prop
  | [] => True
  | x :: r => (∀ G G' v, GLe G G' → x G v → x G' v) ∧ vMono r
theorem vAt_mono : ∀ {Vs : List (Gh → Value → Prop)}, vMono Vs → ∀ i G G' v, GLe G G' → vAt Vs i G v → vAt Vs i G' v
  | [], _, _, _, _, _, _, _ => trivial
  | _ :: _, h, 0, G, G', v, hg, hx => h.1 G G' v hg hx
  | _ :: _, h, i + 1, G, G', v, hg, hx => vAt_mono h.2 i G G' v hg hx
def waits (o : Oper) (k : Nat) : Bool := o.after.toList.any fun x => Nat.beq x.on k && Region.binds .any x
def HP (done : Done) (o : Oper) : Prop := ∀ j, waits o j = true → done j = true
def HN (done : Done) (l : List Oper) (k : Nat) : Prop := ∀ j oj, l[j]? = some oj → waits oj k = true → done j = false
theorem hp_of {done : Done} {o : Oper} (h : ∀ x ∈ o.after.toList, Region.binds .any x = true → done x.on = true) : HP done o := by
  intro j hj
  simp only [waits, List.any_eq_true, Bool.and_eq_true] at hj
  obtain ⟨x, hx, h1, h2⟩ := hj
  have := h x hx h2
  rwa [Nat.eq_of_beq_eq_true h1] at this
theorem hn_of {done : Done} {l : List Oper} {k : Nat} (h : ∀ j oj, l[j]? = some oj → (∃ x ∈ oj.after.toList, Region.binds .any x = true ∧ x.on = k) → done j = false) : HN done l k := by
  intro j oj hj hw
  simp only [waits, List.any_eq_true, Bool.and_eq_true] at hw
  obtain ⟨x, hx, h1, h2⟩ := hw
  exact h j oj hj ⟨x, hx, h2, Nat.eq_of_beq_eq_true h1⟩
section
variable {P : Program} {l : List Oper} {N : Nat} {e : Env} {V : Nat → Gh → Value → Prop} {C : Done → Act → Gh → World → Prop} {i : Nat} {d : Option Tmp} {op : Op} {ty : TypeId} {pos : String} {af : Array Edge} {r : List Oper}
theorem dsNil {k : Nat} : DSteps P l N e V C k [] := trivial
theorem dsNone {j : Nat} (hj : i + 1 = j) (h : ∀ done G w a, done i = false → HP done ⟨d, op, ty, pos, af, none⟩ → HN done l i → C done a G w → Mid l N e V done G a → OpR P ⟨d, op, ty, pos, af, none⟩ a w (fun v w' => ∃ G', GLe G G' ∧ C (done.set i) (a.put d v) G' w' ∧ V i G' v))
    (hr : DSteps P l N e V C j r) : DSteps P l N e V C i (⟨d, op, ty, pos, af, none⟩ :: r) := by
  subst hj
  refine ⟨fun done G w a hd hp hn hC hM => ?_, hr⟩
  rw [if_pos wantNone]
  exact h done G w a hd (hp_of hp) (hn_of hn) hC hM
theorem Mid.eqv {Vs : List (Gh → Value → Prop)} {done : Done} {G : Gh} {a : Act} (h : Mid l N e (vAt Vs) done G a) (j : Nat) {v : Value} {o : Oper} {s : Nat} (hj : l[j]? = some o) (hd : done j = true) (hs : o.dst = some s) (hv : (fun _ x => x = v) = vAt Vs j) : a.tmps[s]? = some v := by
  obtain ⟨u, h1, h2⟩ := h.new j o s hj hd hs
  rw [← hv] at h2
  subst h2
  exact h1
end
end Go.Gx
