/- Walks by reckoning: what is kept of a frame and of memory. No condition. -/
import Derived.Test.YtpbcabanpppfoaaGreatVzCore
set_option linter.all false
namespace Go.Vz
open Go Go.Gx

/-! ### Slots, as a tree -/
inductive PT (α : Type) where
  | lf
  | nd (l : PT α) (v : Option α) (r : PT α)
namespace PT
variable {α : Type}
def get : PT α → Nat → Option α
  | .lf, _ => none
  | .nd l v r, n => match n with
    | 0 => v
    | n + 1 => bif Nat.beq (n % 2) 0 then l.get (n / 2) else r.get (n / 2)
def put : Nat → PT α → Nat → Option α → PT α
  | 0, t, _, _ => t
  | _ + 1, .lf, 0, v => .nd .lf v .lf
  | _ + 1, .nd l _ r, 0, v => .nd l v r
  | f + 1, .lf, n + 1, v => bif Nat.beq (n % 2) 0 then .nd (put f .lf (n / 2) v) none .lf else .nd .lf none (put f .lf (n / 2) v)
  | f + 1, .nd l u r, n + 1, v => bif Nat.beq (n % 2) 0 then .nd (put f l (n / 2) v) u r else .nd l u (put f r (n / 2) v)
theorem beq_iff {a b : Nat} : Nat.beq a b = true ↔ a = b := ⟨Nat.eq_of_beq_eq_true, fun h => by rw [h]; exact Nat.beq_refl b⟩
theorem get_put : ∀ (f : Nat) (t : PT α) (n : Nat) (v : Option α) (m : Nat), n + 1 < 2 ^ f → (put f t n v).get m = if m = n then v else t.get m := by
  intro f
  induction f with
  | zero => intro t n v m h; simp at h
  | succ f ih =>
    intro t n v m h
    have hp : 2 ^ (f + 1) = 2 ^ f + 2 ^ f := by rw [Nat.pow_succ]; omega
    cases n with
    | zero =>
      cases t <;> cases m <;> simp [put, get]
    | succ n =>
      have hn : n / 2 + 1 < 2 ^ f := by omega
      cases hb : Nat.beq (n % 2) 0 with
      | true =>
        have hb' := beq_iff.1 hb
        cases m with
        | zero => cases t <;> simp [put, hb, get]
        | succ m =>
          cases hm : Nat.beq (m % 2) 0 with
          | true =>
            have hm' := beq_iff.1 hm
            have e : (m + 1 = n + 1) ↔ m / 2 = n / 2 := by omega
            cases t <;> simp only [put, hb, get, hm, cond_true, ih _ _ _ _ hn] <;> simp only [e]
          | false =>
            have hm' : m % 2 ≠ 0 := fun h0 => by rw [beq_iff.2 h0] at hm; cases hm
            have e : ¬ (m + 1 = n + 1) := by omega
            cases t <;> simp only [put, hb, get, hm, cond_true, cond_false, if_neg e]
      | false =>
        have hb' : n % 2 ≠ 0 := fun h0 => by rw [beq_iff.2 h0] at hb; cases hb
        cases m with
        | zero => cases t <;> simp [put, hb, get]
        | succ m =>
          cases hm : Nat.beq (m % 2) 0 with
          | true =>
            have hm' := beq_iff.1 hm
            have e : ¬ (m + 1 = n + 1) := by omega
            cases t <;> simp only [put, hb, get, hm, cond_true, cond_false, if_neg e]
          | false =>
            have hm' : m % 2 ≠ 0 := fun h0 => by rw [beq_iff.2 h0] at hm; cases hm
            have e : (m + 1 = n + 1) ↔ m / 2 = n / 2 := by omega
            cases t <;> simp only [put, hb, get, hm, cond_false, ih _ _ _ _ hn] <;> simp only [e]
end PT

/-! ### State -/
structure St (E : DE) where
  sl : PT (SV E) := .lf
  hp : List (Nat × Nat × HB E) := []
  n : Nat := 0
  bs : List Bool := []
  kn : List Nat := []
  md : Bool := true
def hget {α : Type} : List (Nat × α) → Nat → Option α
  | [], _ => none
  | (k, v) :: r, t => bif Nat.beq k t then some v else hget r t
variable {E : DE}
/-- What an entry is, in memory. -/
def HB1 (m : Mn E) : HB E → Value → List Bx → List (Nat × Obj) → Prop
  | .box T c, v, bs, os => ∃ b cs, bs = [(b, T, cs)] ∧ os = [] ∧ v = .pointer (some ⟨b, 0, none⟩) ∧ RC m c cs
  | .arr _ e xs, v, bs, os => ∃ o, bs = Option.toList o ∧ os = [] ∧ Ow m.G o e v xs ∧ xs.length ≤ maxL
  | .fz _ xs, v, bs, os => bs = [] ∧ os = [] ∧ Sl m.G v xs
  | .map k v xs, u, bs, os => ∃ b o, bs = [] ∧ os = [(b, o)] ∧ u = .map (some b) ∧ MpT E m.G k v o xs
  | .itr mid ver kt k left, u, bs, os => ∃ r it b o, bs = [] ∧ os = [(r, it)] ∧ u = .pointer (some ⟨r, 0, none⟩) ∧ mid < m.n ∧ ver < m.n ∧ m.ν mid = .map (some b) ∧ m.O ver = [(b, o)] ∧ ItO (k.enc E) o it b left
  | .cur mid ver kt k x left, u, bs, os => ∃ r it b o, bs = [] ∧ os = [(r, it)] ∧ u = .pointer (some ⟨r, 0, none⟩) ∧ mid < m.n ∧ ver < m.n ∧ m.ν mid = .map (some b) ∧ m.O ver = [(b, o)] ∧ ItO (k.enc E) o it b left ∧ CurO (k.enc E) o it b x
  | .stp mid ver k x, u, bs, os => ∃ b o st, bs = [] ∧ os = [] ∧ u = .int .i64 st ∧ mid < m.n ∧ ver < m.n ∧ m.ν mid = .map (some b) ∧ m.O ver = [(b, o)] ∧ StO (k.enc E) o x st
  | .pts e xs, v, bs, os => ∃ o vs, bs = Option.toList o ∧ os = [] ∧ @Ow Value rpV m.G o e v vs ∧ vs.length ≤ maxL ∧ LL m xs vs
  | .oth, _, _, _ => True
theorem HB1.up {m m' : Mn E} (u : Up m m') {x : HB E} {v : Value} {bs : List Bx} {os : List (Nat × Obj)} (h : HB1 m x v bs os) : HB1 m' x v bs os := by
  cases x with
  | box T c => obtain ⟨b, cs, h1, h2, h3, h4⟩ := h; exact ⟨b, cs, h1, h2, h3, h4.up u⟩
  | arr t e xs => obtain ⟨o, h1, h2, h3, h4⟩ := h; exact ⟨o, h1, h2, h3.mono u.g, h4⟩
  | fz t xs => obtain ⟨h1, h2, h3⟩ := h; exact ⟨h1, h2, Sl.mono u.g h3⟩
  | map k v xs => obtain ⟨b, o, h1, h2, h3, h4⟩ := h; exact ⟨b, o, h1, h2, h3, h4.mono u.g⟩
  | itr mid ver kt k left => obtain ⟨r, it, b, o, h1, h2, h3, h4, h5, h6, h7, h8⟩ := h; exact ⟨r, it, b, o, h1, h2, h3, Nat.lt_of_lt_of_le h4 u.n, Nat.lt_of_lt_of_le h5 u.n, (u.ν _ h4).trans h6, (u.o _ h5).trans h7, h8⟩
  | cur mid ver kt k x left => obtain ⟨r, it, b, o, h1, h2, h3, h4, h5, h6, h7, h8⟩ := h; exact ⟨r, it, b, o, h1, h2, h3, Nat.lt_of_lt_of_le h4 u.n, Nat.lt_of_lt_of_le h5 u.n, (u.ν _ h4).trans h6, (u.o _ h5).trans h7, h8⟩
  | stp mid ver k x => obtain ⟨b, o, st, h1, h2, h3, h4, h5, h6, h7, h8⟩ := h; exact ⟨b, o, st, h1, h2, h3, Nat.lt_of_lt_of_le h4 u.n, Nat.lt_of_lt_of_le h5 u.n, (u.ν _ h4).trans h6, (u.o _ h5).trans h7, h8⟩
  | pts e xs => obtain ⟨o, vs, h1, h2, h3, h4, h5⟩ := h; letI := rpV; exact ⟨o, vs, h1, h2, h3.mono u.g, h4, h5.up u⟩
  | oth => trivial
theorem LL.at_ {m : Mn E} : ∀ {xs : List (SV E)} {vs : List Value}, LL m xs vs → xs.length = vs.length ∧ ∀ (i : Nat) (x : SV E), xs[i]? = some x → ∃ v, vs[i]? = some v ∧ L m x v
  | [], vs, h => by have h : vs = [] := h; subst h; exact ⟨rfl, fun i x hi => by simp at hi⟩
  | a :: r, vs, ⟨v, us, e, h1, h2⟩ => by
    subst e
    obtain ⟨g1, g2⟩ := LL.at_ h2
    refine ⟨by simp [g1], fun i x hi => ?_⟩
    cases i with
    | zero => simp only [List.getElem?_cons_zero, Option.some.injEq] at hi; subst hi; exact ⟨v, rfl, h1⟩
    | succ i => simpa using g2 i x (by simpa using hi)
theorem LL.app {m : Mn E} : ∀ {xs : List (SV E)} {vs : List Value} {ys : List (SV E)} {us : List Value}, LL m xs vs → LL m ys us → LL m (xs ++ ys) (vs ++ us)
  | [], vs, ys, us, h, k => by have h : vs = [] := h; subst h; exact k
  | a :: r, vs, ys, us, ⟨v, vs', e, h1, h2⟩, k => by subst e; exact ⟨v, vs' ++ us, rfl, h1, LL.app h2 k⟩
def HR (m : Mn E) : List (Nat × Nat × HB E) → List Bx → List (Nat × Obj) → Prop
  | [], bl, L => bl = [] ∧ L = []
  | (id, k, x) :: r, bl, L => ∃ bl' L', bl = m.R k ++ bl' ∧ L = m.O k ++ L' ∧ id < m.n ∧ k < m.n ∧ m.C k = x ∧ HB1 m x (m.ν id) (m.R k) (m.O k) ∧ HR m r bl' L'
theorem HR.up {m m' : Mn E} (u : Up m m') : ∀ {h : List (Nat × Nat × HB E)} {bl : List Bx} {L : List (Nat × Obj)}, HR m h bl L → HR m' h bl L
  | [], _, _, h => h
  | _ :: _, _, _, ⟨bl', L', h1, h2, h3, h4, h5, h6, h7⟩ => ⟨bl', L', by rw [u.r _ h4]; exact h1, by rw [u.o _ h4]; exact h2, Nat.lt_of_lt_of_le h3 u.n, Nat.lt_of_lt_of_le h4 u.n, (u.c _ h4).trans h5, by rw [u.ν _ h3, u.r _ h4, u.o _ h4]; exact h6.up u, h7.up u⟩
def hset : List (Nat × Nat × HB E) → Nat → Nat → HB E → List (Nat × Nat × HB E)
  | [], _, _, _ => []
  | (k, q, v) :: r, id, n, x => bif Nat.beq k id then (k, n, x) :: r else (k, q, v) :: hset r id n x
/-- One thing more is named. -/
def Mn.add (m : Mn E) (v : Value) (x : HB E) (bs : List Bx) (os : List (Nat × Obj)) : Mn E :=
  { m with ν := fun i => if i = m.n then v else m.ν i, n := m.n + 1, C := fun i => if i = m.n then x else m.C i, R := fun i => if i = m.n then bs else m.R i, O := fun i => if i = m.n then os else m.O i }
section
variable {m : Mn E} {v : Value} {x : HB E} {bs : List Bx} {os : List (Nat × Obj)}
theorem Mn.add_up : Up m (m.add v x bs os) :=
  ⟨fun _ _ h => h, Nat.le_succ _, fun i hi => if_neg (Nat.ne_of_lt hi), Nat.le_refl _, fun _ _ => rfl, fun i hi => if_neg (Nat.ne_of_lt hi), fun i hi => if_neg (Nat.ne_of_lt hi), fun i hi => if_neg (Nat.ne_of_lt hi)⟩
theorem Mn.add_C : (m.add v x bs os).C m.n = x := if_pos rfl
theorem Mn.add_R : (m.add v x bs os).R m.n = bs := if_pos rfl
theorem Mn.add_O : (m.add v x bs os).O m.n = os := if_pos rfl
theorem Mn.add_ν : (m.add v x bs os).ν m.n = v := if_pos rfl
/-- A new entry. -/
theorem HR.new {hp : List (Nat × Nat × HB E)} {bl : List Bx} {L : List (Nat × Obj)} (h : HR m hp bl L) (hx : HB1 m x v bs os) : HR (m.add v x bs os) ((m.n, m.n, x) :: hp) (bs ++ bl) (os ++ L) :=
  ⟨bl, L, by rw [Mn.add_R], by rw [Mn.add_O], Nat.lt_succ_self _, Nat.lt_succ_self _, Mn.add_C, by rw [Mn.add_R, Mn.add_O, Mn.add_ν]; exact hx.up Mn.add_up, h.up Mn.add_up⟩
end
/-- Where an entry lies; it may turn. -/
theorem HR.split {m : Mn E} {id k : Nat} {x : HB E} : ∀ {h : List (Nat × Nat × HB E)} {bl : List Bx} {L : List (Nat × Obj)}, HR m h bl L → hget h id = some (k, x) →
    ∃ p q A B, bl = p ++ (m.R k ++ q) ∧ L = A ++ (m.O k ++ B) ∧ id < m.n ∧ k < m.n ∧ m.C k = x ∧ HB1 m x (m.ν id) (m.R k) (m.O k) ∧
      ∀ (m' : Mn E) (x' : HB E) (bs : List Bx) (os : List (Nat × Obj)) (v : Value), Up m m' → HB1 m' x' (m.ν id) bs os → HR (m'.add v x' bs os) (hset h id m'.n x') (p ++ (bs ++ q)) (A ++ (os ++ B))
  | [], _, _, _, hg => by cases hg
  | (k', j, y) :: r, bl, L, ⟨bl', L', h1, h2, h3, h4, h5, h6, h7⟩, hg => by
    unfold hget at hg
    cases hb : Nat.beq k' id with
    | true =>
      rw [hb] at hg
      simp only [cond_true, Option.some.injEq, Prod.mk.injEq] at hg
      obtain ⟨rfl, rfl⟩ := hg
      have := Nat.eq_of_beq_eq_true hb
      subst this
      refine ⟨[], bl', [], L', h1, h2, h3, h4, h5, h6, fun m' x' bs os v u hx => ?_⟩
      simp only [hset, hb, cond_true]
      exact ⟨bl', L', by rw [Mn.add_R]; rfl, by rw [Mn.add_O]; rfl, Nat.lt_succ_of_lt (Nat.lt_of_lt_of_le h3 u.n), Nat.lt_succ_self _, Mn.add_C, by
        rw [Mn.add_R, Mn.add_O, Mn.add_up.ν _ (Nat.lt_of_lt_of_le h3 u.n), u.ν _ h3]; exact hx.up Mn.add_up, (h7.up u).up Mn.add_up⟩
    | false =>
      rw [hb] at hg
      obtain ⟨p, q, A, B, g1, g2, g3, g4, g5, g6, g7⟩ := h7.split hg
      refine ⟨m.R j ++ p, q, m.O j ++ A, B, by rw [h1, g1, List.append_assoc], by rw [h2, g2, List.append_assoc], g3, g4, g5, g6, fun m' x' bs os v u hx => ?_⟩
      simp only [hset, hb, cond_false]
      have u2 : Up m (m'.add v x' bs os) := u.trans Mn.add_up
      exact ⟨p ++ (bs ++ q), A ++ (os ++ B), by rw [u2.r _ h4, List.append_assoc], by rw [u2.o _ h4, List.append_assoc], Nat.lt_of_lt_of_le h3 u2.n, Nat.lt_of_lt_of_le h4 u2.n, (u2.c _ h4).trans h5, by
        rw [u2.ν _ h3, u2.r _ h4, u2.o _ h4]; exact h6.up u2, g7 m' x' bs os v u hx⟩
section
variable {w0 : World} {G0 : Gh}
/-- What is kept holds of the frame and of memory. -/
structure RelH (w0 : World) (G0 : Gh) (s : St E) (m : Mn E) (w : World) : Prop where
  bx : ∃ bl L, Cx w0 G0 m.G w ⟨[], L⟩ ∧ Bxs m.G w w0.heap.size bl ⟨[], L⟩ ∧ HR m s.hp bl L
  n : m.n = s.n
  bs : m.bs = s.bs
structure Rel (w0 : World) (G0 : Gh) (s : St E) (m : Mn E) (e : Env) (w : World) : Prop extends RelH w0 G0 s m w where
  sl : ∀ t x, s.sl.get t = some x → ∃ v, e t = some v ∧ RV m x v
theorem RelH.holds {s : St E} {m : Mn E} {w : World} (r : RelH w0 G0 s m w) : Holds m.G w := by obtain ⟨_, _, h, _⟩ := r.bx; exact h.holds
def cst : Value → Option (SV E)
  | .int .u8 n => bif decide (0 ≤ n) && decide (n < 256) then some (.u8 (UInt8.ofNat n.toNat)) else none
  | .int k n => some (.i k n)
  | .bool b => some (.lit b)
  | .string s => some (.str s.data.toList)
  | .pointer none => some .nilp
  | .map none => some .nilm
  | .nilFunc => some .nilf
  | .slice none 0 0 => some .nils
  | _ => none
theorem cst_ok {m : Mn E} {v : Value} {x : SV E} (h : cst v = some x) : RV m x v := by
  unfold cst at h
  split at h
  · rename_i n
    cases hb : decide (0 ≤ n) && decide (n < 256) with
    | false => rw [hb] at h; cases h
    | true =>
      rw [hb] at h
      simp only [cond_true, Option.some.injEq] at h
      subst h
      simp only [Bool.and_eq_true, decide_eq_true_eq] at hb
      show Value.int .u8 n = .int .u8 (((UInt8.ofNat n.toNat).toNat : Nat) : Int)
      have : (UInt8.ofNat n.toNat).toNat = n.toNat := by simp; omega
      rw [this]; congr 1; omega
  all_goals first | (cases h; done) | (simp only [Option.some.injEq] at h; subst h; rfl)
/-- A slice that has been let stay. -/
def rsv1 (h : List (Nat × Nat × HB E)) : SV E → SV E
  | .own id => match hget h id with | some (_, .fz t xs) => .sl t xs | _ => .own id
  | x => x
def rsv (h : List (Nat × Nat × HB E)) : SV E → SV E
  | .own id => match hget h id with | some (_, .fz t xs) => .sl t xs | _ => .own id
  | .agg l => .agg (l.map (rsv1 h))
  | x => x
theorem L.rsv {m : Mn E} {h : List (Nat × Nat × HB E)} {bl : List Bx} {Q : List (Nat × Obj)} (hH : HR m h bl Q) {x : SV E} {v : Value} (hv : L m x v) : L m (rsv1 h x) v := by
  cases x <;> try exact hv
  simp only [rsv1]
  split
  · rename_i hg
    obtain ⟨_, _, _, _, _, _, _, _, _, h6, _⟩ := hH.split hg
    obtain ⟨_, h2, _⟩ := hv
    rw [h2]; exact h6.2.2
  · exact hv
theorem C1.rsv {m : Mn E} {h : List (Nat × Nat × HB E)} {bl : List Bx} {Q : List (Nat × Obj)} (hH : HR m h bl Q) {x : SV E} {cs : List Value} (hv : C1 m x cs) : C1 m (rsv1 h x) cs := by
  cases x <;> try exact hv
  obtain ⟨v, rfl, hv⟩ := hv
  have := L.rsv hH hv
  revert this
  simp only [rsv1]
  split <;> exact fun h => ⟨v, rfl, h⟩
theorem RC.rsv {m : Mn E} {h : List (Nat × Nat × HB E)} {bl : List Bx} {Q : List (Nat × Obj)} (hH : HR m h bl Q) : ∀ {l : List (SV E)} {cs : List Value}, RC m l cs → RC m (l.map (rsv1 h)) cs
  | [], _, hv => hv
  | _ :: _, _, ⟨c1, c2, e, h1, h2⟩ => ⟨c1, c2, e, h1.rsv hH, h2.rsv hH⟩
theorem RV.rsv {m : Mn E} {h : List (Nat × Nat × HB E)} {bl : List Bx} {Q : List (Nat × Obj)} (hH : HR m h bl Q) {x : SV E} {v : Value} (hv : RV m x v) : RV m (rsv h x) v := by
  cases x <;> try exact hv
  · obtain ⟨cs, h1, h2⟩ := hv; exact ⟨cs, h1, h2.rsv hH⟩
  · have hv : L m (.own _) v := hv
    have := L.rsv hH hv
    revert this
    simp only [rsv1, Vz.rsv]
    split <;> exact fun h => by first | exact h | exact (show V1 m _ v from h)
def opd (s : St E) : Operand → Option (SV E)
  | .tmp t => match s.sl.get t with | some x => some (rsv s.hp x) | none => none
  | .const v => cst v
  | .func f => some (.fn f [])
  | .global _ => none
theorem opd_ok {s : St E} {m : Mn E} {e : Env} {w : World} (r : Rel w0 G0 s m e w) {x : Operand} {y : SV E} (h : opd s x = some y) : ∃ v, opv e x = some v ∧ RV m y v := by
  cases x with
  | tmp t =>
    simp only [opd] at h
    split at h
    · rename_i x hx
      simp only [Option.some.injEq] at h; subst h
      obtain ⟨v, h1, h2⟩ := r.sl t x hx
      obtain ⟨_, _, _, _, hH⟩ := r.bx
      exact ⟨v, h1, h2.rsv hH⟩
    · cases h
  | const v => exact ⟨v, rfl, cst_ok h⟩
  | global g => cases h
  | func f => simp only [opd, Option.some.injEq] at h; subst h; exact ⟨_, rfl, [], rfl, rfl⟩
/-- A slot is set. -/
def St.put (s : St E) (d : Option Nat) (x : Option (SV E)) : St E := match d with | none => s | some d => { s with sl := s.sl.put 12 d x }
def dOk (d : Option Nat) : Bool := match d with | none => true | some d => Nat.blt d 4000
theorem Rel.put {s : St E} {m : Mn E} {e : Env} {w : World} (r : Rel w0 G0 s m e w) {d : Option Nat} (hd : dOk d = true) {x : Option (SV E)} {v : Value} (hx : ∀ y, x = some y → RV m y v) : Rel w0 G0 (s.put d x) m (e.putO d v) w := by
  cases d with
  | none => exact r
  | some d =>
    have hlt : d + 1 < 2 ^ 12 := by have : d < 4000 := Nat.le_of_ble_eq_true hd; omega
    refine ⟨⟨r.bx, r.n, r.bs⟩, fun t y ht => ?_⟩
    simp only [St.put] at ht
    rw [PT.get_put _ _ _ _ _ hlt] at ht
    by_cases htd : t = d
    · subst htd
      rw [if_pos rfl] at ht
      exact ⟨v, by simp [Env.putO, Env.put, Nat.beq_refl], hx y ht⟩
    · rw [if_neg htd] at ht
      obtain ⟨u, h1, h2⟩ := r.sl t y ht
      exact ⟨u, by simp [Env.putO, Env.put, Gx.beq_false htd, h1], h2⟩
theorem Rel.up {s : St E} {m m' : Mn E} {e : Env} {w w' : World} {s' : St E} (r : Rel w0 G0 s m e w) (u : Up m m') (h : RelH w0 G0 s' m' w') : Rel w0 G0 { s with hp := s'.hp, n := s'.n, bs := s'.bs, kn := s'.kn } m' e w' :=
  ⟨⟨h.bx, h.n, h.bs⟩, fun t x ht => by obtain ⟨v, h1, h2⟩ := r.sl t x ht; exact ⟨v, h1, h2.up u⟩⟩
/-- A test has come out. -/
def St.setb (s : St E) (id : Nat) (q : Bool) : St E := { s with bs := s.bs.set id q, kn := id :: s.kn }
theorem Rel.setb {s : St E} {m : Mn E} {e : Env} {w : World} (r : Rel w0 G0 s m e w) {id : Nat} {q : Bool} (h : s.bs[id]? = some q) : Rel w0 G0 (s.setb id q) m e w := by
  have : s.bs.set id q = s.bs := by
    apply List.ext_getElem?
    intro i
    rw [List.getElem?_set]
    split
    · rename_i hi; subst hi; split
      · exact h.symm
      · rename_i hl; rw [List.getElem?_eq_none (by omega)]
    · rfl
  unfold St.setb; rw [this]; exact ⟨⟨r.bx, r.n, r.bs⟩, r.sl⟩
/-- A new test. -/
def St.cmp (s : St E) (d : Option Nat) (b : Bool) : St E := ({ s with bs := s.bs ++ [b] } : St E).put d (some (.bv s.bs.length))
def Mn.cmp (m : Mn E) (b : Bool) : Mn E := { m with bs := m.bs ++ [b] }
theorem Mn.cmp_up (m : Mn E) (b : Bool) : Up m (m.cmp b) :=
  ⟨fun _ _ h => h, Nat.le_refl _, fun _ _ => rfl, by simp [Mn.cmp], fun i hi => by unfold Mn.b Mn.cmp; simp only []; rw [List.getElem?_append_left hi], fun _ _ => rfl, fun _ _ => rfl, fun _ _ => rfl⟩
theorem Rel.cmp {s : St E} {m : Mn E} {e : Env} {w : World} (r : Rel w0 G0 s m e w) {d : Option Nat} (hd : dOk d = true) {b : Bool} : Rel w0 G0 (s.cmp d b) (m.cmp b) (e.putO d (.bool b)) w := by
  obtain ⟨bl, L, hC, hB, hH⟩ := r.bx
  have r1 : Rel w0 G0 ({ s with bs := s.bs ++ [b] } : St E) (m.cmp b) e w :=
    ⟨⟨⟨bl, L, hC, hB, hH.up (m.cmp_up b)⟩, r.n, by simp [Mn.cmp, r.bs]⟩, fun t x ht => by obtain ⟨v, h1, h2⟩ := r.sl t x ht; exact ⟨v, h1, h2.up (m.cmp_up b)⟩⟩
  refine r1.put hd fun y hy => ?_
  simp only [Option.some.injEq] at hy
  subst hy
  refine ⟨by simp [Mn.cmp, r.bs], ?_⟩
  unfold Mn.b Mn.cmp
  simp [r.bs]
/-- A slot is set; a test gets a name. -/
def St.putV (s : St E) (d : Option Nat) (x : SV E) : St E := match x with
  | .b q => s.cmp d q
  | x => s.put d (some x)
theorem Rel.putV {s : St E} {m : Mn E} {e : Env} {w : World} (r : Rel w0 G0 s m e w) {d : Option Nat} (hd : dOk d = true) {x : SV E} {v : Value} (hx : RV m x v) : ∃ m', Up m m' ∧ Rel w0 G0 (s.putV d x) m' (e.putO d v) w := by
  unfold St.putV
  split
  · rename_i q
    have hx : v = .bool q := hx
    subst hx
    exact ⟨_, m.cmp_up q, r.cmp hd⟩
  · exact ⟨m, Up.refl m, r.put hd fun y hy => by simp only [Option.some.injEq] at hy; subst hy; exact hx⟩
end
end Go.Vz
