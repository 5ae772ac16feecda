/- Walks by reckoning: functions: what they promise, calls by promise and calls that are walked in place. No condition. -/
import Derived.Test.YtpbcabanpppfoaaGreatVzCode
set_option linter.all false
namespace Go.Vz
open Go Go.Gx
variable {E : DE} {P : Program}
/-- Several data. -/
@[reducible] def HL (E : DE) : List Ty → Type
  | [] => Unit
  | t :: r => t.den E × HL E r
def IsVs (G : Gh) : (ts : List Ty) → HL E ts → List Value → Prop
  | [], _, vs => vs = []
  | t :: r, a, vs => ∃ v us, vs = v :: us ∧ IsV G t a.1 v ∧ IsVs G r a.2 us
variable (F : DF E)
def opnVs : (ts : List Ty) → HL E ts → List (SV E)
  | [], _ => []
  | t :: r, a => opnV F t a.1 :: opnVs r a.2
theorem opnVs_ok {m : Mn E} : ∀ {ts : List Ty} {a : HL E ts} {vs : List Value}, IsVs m.G ts a vs → ∀ (i : Nat) (x : SV E), (opnVs F ts a)[i]? = some x → ∃ v, vs[i]? = some v ∧ RV m x v
  | [], _, _, _, i, x, h => by simp [opnVs] at h
  | t :: r, a, vs, ⟨v, us, e, h1, h2⟩, i, x, h => by
    subst e
    cases i with
    | zero => simp only [opnVs, List.getElem?_cons_zero, Option.some.injEq] at h; subst h; exact ⟨v, rfl, opnV_ok F h1⟩
    | succ i => simpa using opnVs_ok h2 i x (by simpa [opnVs] using h)
def shutVs (bs : List Bool) : (ts : List Ty) → List (SV E) → Option (HL E ts)
  | [], [] => some ()
  | t :: r, x :: l => match shutV F bs t x, shutVs bs r l with | some a, some b => some (a, b) | _, _ => none
  | _, _ => none
theorem shutVs_ok {m : Mn E} : ∀ {ts : List Ty} {l : List (SV E)} {a : HL E ts} {vs : List Value}, shutVs F m.bs ts l = some a → l.length = vs.length →
    (∀ (i : Nat) (x : SV E), l[i]? = some x → ∃ v, vs[i]? = some v ∧ RV m x v) → IsVs m.G ts a vs
  | [], [], a, vs, _, hl, _ => by cases vs with | nil => rfl | cons _ _ => simp at hl
  | [], _ :: _, a, vs, h, _, _ => by simp [shutVs] at h
  | _ :: _, [], a, vs, h, _, _ => by simp [shutVs] at h
  | t :: r, x :: l, a, [], h, hl, _ => by simp at hl
  | t :: r, x :: l, a, v :: vs, h, hl, hv => by
    simp only [shutVs] at h
    split at h
    · rename_i a1 a2 h1 h2
      simp only [Option.some.injEq] at h; subst h
      obtain ⟨u, e1, e2⟩ := hv 0 x rfl
      simp only [List.getElem?_cons_zero, Option.some.injEq] at e1; subst e1
      exact ⟨v, vs, rfl, shutV_ok F h1 e2, shutVs_ok h2 (by simpa using hl) fun i y hi => by simpa using hv (i + 1) y (by simpa using hi)⟩
    · cases h
/-- Results, as a value. -/
def OutIs (G : Gh) : (rt : List Ty) → HL E rt → Value → Prop
  | [t], a, v => IsV G t a.1 v
  | [], _, v => v = .tuple #[]
  | t :: u :: r, a, v => ∃ vs, v = .tuple vs.toArray ∧ IsVs G (t :: u :: r) a vs
def outV : (rt : List Ty) → HL E rt → SV E
  | [t], a => opnV F t a.1
  | [], _ => .tup []
  | t :: u :: r, a => .tup (opnVs F (t :: u :: r) a)
def shutO (bs : List Bool) : (rt : List Ty) → SV E → Option (HL E rt)
  | [t], x => match shutV F bs t x with | some a => some (a, ()) | none => none
  | [], x => match x with | .tup [] => some () | _ => none
  | t :: u :: r, x => match x with | .tup l => shutVs F bs (t :: u :: r) l | _ => none
/-- A promise: on such arguments, if so, it returns that. -/
structure Con (E : DE) where
  ts : List Ty
  rt : List Ty
  pre : Option (HL E ts → Prop) := none
  ret : HL E ts → HL E rt
def Con.holds (c : Con E) (a : HL E c.ts) : Prop := match c.pre with | none => True | some p => p a
def Con.ok (P : Program) (f : Nat) (c : Con E) : Prop := ∀ (a : HL E c.ts) (G : Gh) (w : World) (vs : List Value), Holds G w → c.holds a → IsVs G c.ts a vs → RetG P f vs.toArray G w fun G' v => OutIs G' c.rt (c.ret a) v
/-- What a function's results are. -/
def rets (P : Program) (s : St E) : List ResultVar → Option (List (SV E))
  | [] => some []
  | .tmp t :: r => match s.sl.get t, rets P s r with | some x, some l => some (res s.bs x :: l) | _, _ => none
  | .cell t T :: r => match s.sl.get t with
    | some (.ptr id 0) => match hget s.hp id, sizeT P T, rets P s r with
      | some (_, .box _ c), some n, some l => bif rowOk P T n && Nat.beq (wid c) n then some (res s.bs (mkRow c) :: l) else none
      | _, _, _ => none
    | _ => none
def plain : SV E → Bool
  | .tup _ => false
  | .undef => false
  | .nxt => false
  | _ => true
def ret1 : List (SV E) → Option (SV E)
  | [x] => some x
  | l => bif l.all plain then some (.tup l) else none
def retSV (P : Program) (s : St E) (fn : Func) : Option (SV E) := match rets P s fn.results.toList with | some l => ret1 l | none => none
variable {F} {w0 : World} {G0 : Gh}
theorem rets_ok {s : St E} {m : Mn E} {e : Env} {w : World} (r : Rel w0 G0 s m e w) : ∀ {l : List ResultVar} {xs : List (SV E)}, rets P s l = some xs → ∃ vs : List Value, (∀ (N : Nat) (a : Act), Fr N a e → (l.mapM (rvar a.tmps)).run P w = .ok vs w) ∧ xs.length = vs.length ∧ ∀ (i : Nat) (x : SV E), xs[i]? = some x → ∃ v, vs[i]? = some v ∧ RV m x v
  | [], xs, h => by simp only [rets, Option.some.injEq] at h; subst h; exact ⟨[], fun N a ha => rfl, rfl, fun i x h => by simp at h⟩
  | .tmp t :: l, xs, h => by
    simp only [rets] at h
    split at h
    · rename_i x ys hx hl
      simp only [Option.some.injEq] at h; subst h
      obtain ⟨v, h1, h2⟩ := r.sl t x hx
      obtain ⟨vs, h3, h4, h5⟩ := rets_ok r hl
      refine ⟨v :: vs, fun N a ha => ?_, by simp [h4], fun i y hi => ?_⟩
      · rw [List.mapM_cons]
        have e1 : (rvar a.tmps (.tmp t)).run P w = .ok v w := run_resultVar (r := .tmp t) ha h1
        simp [e1, h3 N a ha]
      · cases i with
        | zero => simp at hi; subst hi; exact ⟨v, rfl, by have := h2.res; rwa [r.bs] at this⟩
        | succ i => simpa using h5 i y (by simpa using hi)
    · cases h
  | .cell t T :: l, xs, h => by
    simp only [rets] at h
    split at h
    · rename_i id hx
      split at h
      · rename_i k T' c n ys hg hn hl
        cases hc : rowOk P T n && Nat.beq (wid c) n with
        | false => rw [hc] at h; cases h
        | true =>
          rw [hc] at h
          simp only [cond_true, Option.some.injEq] at h; subst h
          rw [Bool.and_eq_true] at hc
          have hw := Nat.eq_of_beq_eq_true hc.2
          obtain ⟨v, h1, h2⟩ := r.sl t _ hx
          obtain ⟨g0, _, _, ⟨b, cs, g1, _, g2, g3⟩, g4⟩ := r.wd hg
          obtain ⟨_, b', o, g5, g6⟩ := leaf_L rfl h2
          rw [g2] at g5
          simp only [Value.pointer.injEq, Option.some.injEq, Addr.mk.injEq, and_true] at g5
          obtain ⟨rfl, rfl⟩ := g5
          subst g6
          have g7 := g4 w g0
          rw [g1] at g7
          have hlen : cs.length = n := by rw [g3.len, hw]
          obtain ⟨vs, h3, h4, h5⟩ := rets_ok r hl
          refine ⟨.agg cs.toArray :: vs, fun N a ha => ?_, by simp [h4], fun i y hi => ?_⟩
          · rw [List.mapM_cons]
            have e1 : (rvar a.tmps (.cell t T)).run P w = .ok (.agg cs.toArray) w := run_resultVar (r := .cell t T) ha ⟨b, n, cs, by simpa using h1, hc.1, hlen, g7.range (i := 0) rfl (o := 0) (m := n) (by rw [List.drop_zero, List.take_of_length_le (Nat.le_of_eq hlen)]), rfl⟩
            simp [e1, h3 N a ha]
          · cases i with
            | zero => simp at hi; subst hi; exact ⟨_, rfl, by have := (mkRow_ok g3).res; rwa [r.bs] at this⟩
            | succ i => simpa using h5 i y (by simpa using hi)
      · cases h
    · cases h
theorem LV_of {m : Mn E} : ∀ {xs : List (SV E)} {vs : List Value}, xs.length = vs.length → (∀ (i : Nat) (x : SV E), xs[i]? = some x → ∃ v, vs[i]? = some v ∧ V1 m x v) → LV m xs vs
  | [], vs, hl, _ => by cases vs with | nil => rfl | cons _ _ => simp at hl
  | x :: xs, [], hl, _ => by simp at hl
  | x :: xs, v :: vs, hl, hv => by
    obtain ⟨u, e1, e2⟩ := hv 0 x rfl
    simp only [List.getElem?_cons_zero, Option.some.injEq] at e1; subst e1
    exact ⟨v, vs, rfl, e2, LV_of (by simpa using hl) fun i y hi => by simpa using hv (i + 1) y (by simpa using hi)⟩
theorem plain_V1 {m : Mn E} {x : SV E} {v : Value} (h : plain x = true) (hv : RV m x v) : V1 m x v := by
  cases x <;> first | exact hv | (cases h; done)
theorem retSV_ok {s : St E} {m : Mn E} {e : Env} {w : World} (r : Rel w0 G0 s m e w) {fn : Func} {x : SV E} (h : retSV P s fn = some x) : ∃ v, RV m x v ∧ ∀ (N : Nat) (a : Act), Fr N a e → (results fn a.tmps).run P w = .ok v w := by
  unfold retSV at h
  split at h
  · rename_i l hl
    obtain ⟨vs, h1, h2, h3⟩ := rets_ok (P := P) r hl
    have hrun : ∀ (N : Nat) (a : Act), Fr N a e → (results fn a.tmps).run P w = .ok (if h : vs.length = 1 then vs[0] else .tuple vs.toArray) w := fun N a ha => by
      rw [results_eq]
      have e1 : fn.results = fn.results.toList.toArray := rfl
      rw [e1, List.mapM_toArray]
      have := h1 N a ha
      simp only [Sem.run_bind, Sem.run_map, this] 
      simp
    match l, vs, h2, h3, h, hrun with
    | [y], [v], _, h3, h, hrun =>
      simp only [ret1, Option.some.injEq] at h; subst h
      obtain ⟨u, e1, e2⟩ := h3 0 y rfl
      simp only [List.getElem?_cons_zero, Option.some.injEq] at e1; subst e1
      exact ⟨v, e2, fun N a ha => hrun N a ha⟩
    | [], [], _, h3, h, hrun =>
      simp only [ret1] at h
      simp at h; subst h
      exact ⟨_, ⟨[], rfl, rfl⟩, fun N a ha => hrun N a ha⟩
    | y :: z :: l, v :: u :: vs, h2, h3, h, hrun =>
      simp only [ret1] at h
      cases hp : (y :: z :: l).all plain with
      | false => rw [hp] at h; cases h
      | true =>
        rw [hp] at h; simp only [cond_true, Option.some.injEq] at h; subst h
        refine ⟨_, ⟨_, rfl, LV_of h2 fun i x hi => ?_⟩, fun N a ha => by rw [hrun N a ha]; simp⟩
        obtain ⟨q, e1, e2⟩ := h3 i x hi
        exact ⟨q, e1, plain_V1 (List.all_eq_true.1 hp x (List.mem_of_getElem? hi)) e2⟩
  · cases h
theorem opnVs_LV {m : Mn E} : ∀ {ts : List Ty} {a : HL E ts} {vs : List Value}, IsVs m.G ts a vs → LV m (opnVs F ts a) vs
  | [], _, _, h => h
  | _ :: _, _, _, ⟨v, us, e, h1, h2⟩ => ⟨v, us, e, opnV_V1 h1, opnVs_LV h2⟩
theorem outV_ok {m : Mn E} : ∀ {rt : List Ty} {a : HL E rt} {v : Value}, OutIs m.G rt a v → RV m (outV F rt a) v
  | [_], _, _, h => opnV_ok F h
  | [], _, _, h => ⟨[], h, rfl⟩
  | _ :: _ :: _, _, _, ⟨vs, h1, h2⟩ => ⟨vs, h1, opnVs_LV h2⟩
theorem LV_at {m : Mn E} : ∀ {l : List (SV E)} {vs : List Value}, LV m l vs → l.length = vs.length ∧ ∀ (i : Nat) (x : SV E), l[i]? = some x → ∃ v, vs[i]? = some v ∧ V1 m x v
  | [], vs, h => by have h : vs = _ := h; subst h; exact ⟨rfl, fun i x h => by simp at h⟩
  | a :: l, vs, ⟨v, us, e, h1, h2⟩ => by
    subst e
    obtain ⟨g1, g2⟩ := LV_at h2
    refine ⟨by simp [g1], fun i x hi => ?_⟩
    cases i with
    | zero => simp at hi; subst hi; exact ⟨v, rfl, h1⟩
    | succ i => simpa using g2 i x (by simpa using hi)
theorem shutO_ok {m : Mn E} : ∀ {rt : List Ty} {x : SV E} {a : HL E rt} {v : Value}, shutO F m.bs rt x = some a → RV m x v → OutIs m.G rt a v
  | [t], x, a, v, h, hv => by
    simp only [shutO] at h
    split at h
    · rename_i b hb
      simp only [Option.some.injEq] at h; subst h
      exact shutV_ok F hb hv
    · cases h
  | [], x, a, v, h, hv => by
    simp only [shutO] at h
    split at h
    · obtain ⟨vs, rfl, h1⟩ := hv
      have h1 : vs = _ := h1
      subst h1; rfl
    · cases h
  | t :: u :: r, x, a, v, h, hv => by
    simp only [shutO] at h
    split at h
    · obtain ⟨vs, rfl, h1⟩ := hv
      obtain ⟨g1, g2⟩ := LV_at h1
      exact ⟨vs, rfl, shutVs_ok F h g1 fun i x hi => by obtain ⟨v, e1, e2⟩ := g2 i x hi; exact ⟨v, e1, V1_RV e2⟩⟩
    · cases h
end Go.Vz

namespace Go.Vz
open Go Go.Gx
variable {E : DE} {P : Program}
/-! ### Shapes -/
/-- A part of a row: data, or the name of an entry. -/
inductive CS where
  | dat (t : Ty)
  | nm (j : Nat) (off : Nat := 0)
/-- An entry: a box, a map, an own slice. -/
inductive ES where
  | box (T : Nat) (l : List CS)
  | map (k v : Ty)
  | arr (t : Ty) (e : Nat)
@[reducible] def CL (E : DE) : List CS → Type
  | [] => Unit
  | .dat t :: r => t.den E × CL E r
  | .nm _ _ :: r => CL E r
@[reducible] def ES.den (E : DE) : ES → Type
  | .box _ l => CL E l
  | .map k v => List (k.den E × v.den E)
  | .arr t _ => List (t.den E)
@[reducible] def EL (E : DE) : List ES → Type
  | [] => Unit
  | e :: r => e.den E × EL E r
def nmSV (es : List ES) (ρ : List Nat) (j off : Nat) : SV E := match es[j]?, ρ[j]? with
  | some (.box _ _), some id => .ptr id off
  | some (.map _ _), some id => .mp id
  | some (.arr _ _), some id => .own id
  | _, _ => .undef
def isNm (es : List ES) (ρ : List Nat) (j off : Nat) : SV E → Bool
  | .ptr id o => match es[j]?, ρ[j]? with | some (.box _ _), some k => Nat.beq k id && Nat.beq o off | _, _ => false
  | .mp id => match es[j]?, ρ[j]? with | some (.map _ _), some k => Nat.beq k id | _, _ => false
  | .own id => match es[j]?, ρ[j]? with | some (.arr _ _), some k => Nat.beq k id | _, _ => false
  | _ => false
variable (F : DF E)
def opnC (es : List ES) (ρ : List Nat) : (l : List CS) → CL E l → List (SV E)
  | [], _ => []
  | .dat t :: r, x => opn F t x.1 ++ opnC es ρ r x.2
  | .nm j o :: r, x => nmSV es ρ j o :: opnC es ρ r x
def opnA (es : List ES) (ρ : List Nat) : (l : List CS) → CL E l → List (SV E)
  | [], _ => []
  | .dat t :: r, x => opnV F t x.1 :: opnA es ρ r x.2
  | .nm j o :: r, x => nmSV es ρ j o :: opnA es ρ r x
def opnE (es : List ES) (ρ : List Nat) : (e : ES) → e.den E → HB E
  | .box T l, x => .box T (opnC F es ρ l x)
  | .map k v, xs => .map k v xs
  | .arr t e, xs => .arr t e xs
def shutC (bs : List Bool) (es : List ES) (ρ : List Nat) : (l : List CS) → List (SV E) → Option (CL E l)
  | [], [] => some ()
  | [], _ :: _ => none
  | .dat t :: r, c => match takeW (Ty.sz (E := E) t) c, dropW (Ty.sz (E := E) t) c with
    | some a, some b => match shutT F bs t a, shutC bs es ρ r b with | some x, some y => some (x, y) | _, _ => none
    | _, _ => none
  | .nm _ _ :: _, [] => none
  | .nm j o :: r, x :: c => bif isNm es ρ j o x then shutC bs es ρ r c else none
def shutA (bs : List Bool) (es : List ES) (ρ : List Nat) : (l : List CS) → List (SV E) → Option (CL E l)
  | [], [] => some ()
  | [], _ :: _ => none
  | _ :: _, [] => none
  | .dat t :: r, x :: c => match shutV F bs t x, shutA bs es ρ r c with | some x, some y => some (x, y) | _, _ => none
  | .nm j o :: r, x :: c => bif isNm es ρ j o x then shutA bs es ρ r c else none
def mapTo (k v k' v' : Ty) (xs : List (k.den E × v.den E)) : Option (List (k'.den E × v'.den E)) := match Ty.to (fun t => List (t.den E × v.den E)) k k' xs with
  | some ys => Ty.to (fun t => List (k'.den E × t.den E)) v v' ys
  | none => none
def shutE (s : St E) (es : List ES) (ρ : List Nat) : (e : ES) → HB E → Option (e.den E)
  | .box T l, x => match x with | .box T' c => bif Nat.beq T T' then shutC F s.bs es ρ l (c.map fun x => rsv1 s.hp x) else none | _ => none
  | .map k v, x => match x with | .map k' v' xs => mapTo k' v' k v xs | _ => none
  | .arr t e, x => match x with | .arr t' e' xs => bif Nat.beq e e' then Ty.to (fun t => List (t.den E)) t' t xs else none | _ => none
def shutEs (s : St E) (es0 : List ES) (ρ : List Nat) : (es : List ES) → List (Nat × Nat × HB E) → Option (EL E es)
  | [], [] => some ()
  | [], _ :: _ => none
  | _ :: _, [] => none
  | e :: r, x :: l => match shutE F s es0 ρ e x.2.2, shutEs s es0 ρ r l with | some a, some b => some (a, b) | _, _ => none
/-- Names say the same. -/
structure NR (m : Mn E) (ρ : List Nat) (m2 : Mn E) (ρ2 : List Nat) : Prop where
  g : GLe m.G m2.G
  ν : ∀ (j id : Nat), ρ[j]? = some id → ∃ id2 : Nat, ρ2[j]? = some id2 ∧ id2 < m2.n ∧ m2.ν id2 = m.ν id
section
variable {m m2 : Mn E} {ρ ρ2 : List Nat} {es : List ES}
variable {F}
theorem isNm_ok (n : NR m ρ m2 ρ2) {j off : Nat} {x : SV E} {v : Value} (h : isNm es ρ j off x = true) (hv : L m x v) : L m2 (nmSV es ρ2 j off : SV E) v ∧ leaf (nmSV es ρ2 j off : SV E) = true := by
  unfold isNm at h
  split at h
  · split at h
    · rename_i id o' _ T l k he hk
      rw [Bool.and_eq_true] at h
      have e1 := Nat.eq_of_beq_eq_true h.1
      have e2 := Nat.eq_of_beq_eq_true h.2
      subst e1 e2
      obtain ⟨id2, h1, h2, h3⟩ := n.ν _ _ hk
      obtain ⟨_, b, o, h4, h5⟩ := hv
      unfold nmSV; rw [he, h1]
      exact ⟨⟨h2, b, o, by rw [h3]; exact h4, h5⟩, rfl⟩
    · cases h
  · split at h
    · rename_i id _ T l k he hk
      have := Nat.eq_of_beq_eq_true h
      subst this
      obtain ⟨id2, h1, h2, h3⟩ := n.ν _ _ hk
      obtain ⟨_, h4, h5⟩ := hv
      unfold nmSV; rw [he, h1]
      exact ⟨⟨h2, by rw [h3]; exact h4, by rw [h3]; exact h5⟩, rfl⟩
    · cases h
  · split at h
    · rename_i id _ T l k he hk
      have := Nat.eq_of_beq_eq_true h
      subst this
      obtain ⟨id2, h1, h2, h3⟩ := n.ν _ _ hk
      obtain ⟨_, h4, h5⟩ := hv
      unfold nmSV; rw [he, h1]
      exact ⟨⟨h2, by rw [h3]; exact h4, by rw [h3]; exact h5⟩, rfl⟩
    · cases h
  · cases h
theorem isNm_leaf {j off : Nat} {x : SV E} (h : isNm es ρ j off x = true) : leaf x = true := by
  cases x <;> first | rfl | (simp [isNm] at h; done)
theorem shutC_ok (n : NR m ρ m2 ρ2) : ∀ {l : List CS} {c : List (SV E)} {x : CL E l} {cs : List Value}, shutC F m.bs es ρ l c = some x → RC m c cs → RC m2 (opnC F es ρ2 l x) cs
  | [], [], _, cs, _, hc => hc
  | [], _ :: _, _, _, h, _ => by simp [shutC] at h
  | .dat t :: r, c, x, cs, h, hc => by
    simp only [shutC] at h
    split at h
    · rename_i a b ha hb
      split at h
      · rename_i y z hy hz
        simp only [Option.some.injEq] at h; subst h
        have h1 := shutT_ok F t a y _ hy (hc.take ha)
        have h2 := shutC_ok n hz (hc.drop hb)
        have h3 := opn_ok (m := m2) F t y _ (Rp.mono n.g h1)
        have := h3.append h2
        rwa [List.take_append_drop] at this
      · cases h
    · cases h
  | .nm _ _ :: _, [], _, _, h, _ => by simp [shutC] at h
  | .nm j o :: r, y :: c, x, cs, h, ⟨c1, c2, e, h1, h2⟩ => by
    simp only [shutC] at h
    cases hn : isNm es ρ j o y with
    | false => rw [hn] at h; cases h
    | true =>
      rw [hn] at h
      obtain ⟨v, rfl, h3⟩ := h1.leaf_ (isNm_leaf hn)
      obtain ⟨h4, h5⟩ := isNm_ok n hn h3
      exact ⟨[v], c2, e, leaf_C1 h5 h4, shutC_ok n h h2⟩
theorem shutA_ok (n : NR m ρ m2 ρ2) : ∀ {l : List CS} {c : List (SV E)} {x : CL E l} {vs : List Value}, shutA F m.bs es ρ l c = some x → c.length = vs.length → (∀ (i : Nat) (y : SV E), c[i]? = some y → ∃ v, vs[i]? = some v ∧ RV m y v) →
    LV m2 (opnA F es ρ2 l x) vs
  | [], [], _, vs, _, hl, _ => by cases vs with | nil => rfl | cons _ _ => simp at hl
  | [], _ :: _, _, _, h, _, _ => by simp [shutA] at h
  | _ :: _, [], _, _, h, _, _ => by simp [shutA] at h
  | .dat t :: r, y :: c, x, [], h, hl, _ => by simp at hl
  | .nm j o :: r, y :: c, x, [], h, hl, _ => by simp at hl
  | .dat t :: r, y :: c, x, v :: vs, h, hl, hv => by
    simp only [shutA] at h
    split at h
    · rename_i a b ha hb
      simp only [Option.some.injEq] at h; subst h
      obtain ⟨u, e1, e2⟩ := hv 0 y rfl
      simp only [List.getElem?_cons_zero, Option.some.injEq] at e1; subst e1
      exact ⟨v, vs, rfl, opnV_V1 (F := F) (IsV.mono n.g (shutV_ok F ha e2)), shutA_ok n hb (by simpa using hl) fun i z hi => by simpa using hv (i + 1) z (by simpa using hi)⟩
    · cases h
  | .nm j o :: r, y :: c, x, v :: vs, h, hl, hv => by
    simp only [shutA] at h
    cases hn : isNm es ρ j o y with
    | false => rw [hn] at h; cases h
    | true =>
      rw [hn] at h
      obtain ⟨u, e1, e2⟩ := hv 0 y rfl
      simp only [List.getElem?_cons_zero, Option.some.injEq] at e1; subst e1
      obtain ⟨h4, h5⟩ := isNm_ok n hn (leaf_L (isNm_leaf hn) e2)
      refine ⟨v, vs, rfl, ?_, shutA_ok n h (by simpa using hl) fun i z hi => by simpa using hv (i + 1) z (by simpa using hi)⟩
      have : ∀ z : SV E, leaf z = true → L m2 z v → V1 m2 z v := fun z hz hL => by cases z <;> first | exact hL | cases hz
      exact this _ h5 h4
theorem mapTo_ok {G : Gh} {k v k' v' : Ty} {xs : List (k.den E × v.den E)} {ys : List (k'.den E × v'.den E)} {o : Obj} (h : mapTo k v k' v' xs = some ys) (hm : MpT E G k v o xs) : MpT E G k' v' o ys := by
  unfold mapTo at h
  split at h
  · rename_i zs hz
    obtain ⟨e1, e2⟩ := Ty.to_ok (C := fun t => List (t.den E × v.den E)) hz
    subst e1; simp only at e2; subst e2
    obtain ⟨e1, e2⟩ := Ty.to_ok (C := fun t => List (k.den E × t.den E)) h
    subst e1; simp only at e2; subst e2
    exact hm
  · cases h
theorem shutE_ok {s : St E} {bl : List Bx} {Q : List (Nat × Obj)} (n : NR m ρ m2 ρ2) (hH : HR m s.hp bl Q) (hb : m.bs = s.bs) {e : ES} {x : HB E} {y : e.den E} {v : Value} {bs : List Bx} {os : List (Nat × Obj)} (h : shutE F s es ρ e x = some y) (hx : HB1 m x v bs os) : HB1 m2 (opnE F es ρ2 e y) v bs os := by
  cases e with
  | box T l =>
    simp only [shutE] at h
    split at h
    · rename_i T' c
      cases ht : Nat.beq T T' with
      | false => rw [ht] at h; cases h
      | true =>
        rw [ht] at h; simp only [cond_true] at h
        have := Nat.eq_of_beq_eq_true ht
        subst this
        obtain ⟨b, cs, h1, h2, h3, h4⟩ := hx
        rw [← hb] at h
        exact ⟨b, cs, h1, h2, h3, shutC_ok n h (h4.rsv hH)⟩
    · cases h
  | map k w =>
    simp only [shutE] at h
    split at h
    · obtain ⟨b, o, h1, h2, h3, h4⟩ := hx
      exact ⟨b, o, h1, h2, h3, (mapTo_ok h h4).mono n.g⟩
    · cases h
  | arr t e =>
    simp only [shutE] at h
    split at h
    · rename_i t' e' xs
      cases ht : Nat.beq e e' with
      | false => rw [ht] at h; cases h
      | true =>
        rw [ht] at h; simp only [cond_true] at h
        have := Nat.eq_of_beq_eq_true ht
        subst this
        obtain ⟨e1, e2⟩ := Ty.to_ok (C := fun t => List (t.den E)) h
        subst e1; simp only at e2; subst e2
        obtain ⟨o, h1, h2, h3, h4⟩ := hx
        exact ⟨o, h1, h2, h3.mono n.g, h4⟩
    · cases h
end
end Go.Vz
