/- A part of the proof. No condition. -/
import Derived.Test.YtpbcabanpppfoaaGreatA1
set_option linter.all false
namespace Go.Vz
open Go Go.Gx
inductive Ty where
  | int | bool | u8 | dig | str
  | ik (k : IntKind)
  | st (n : Nat)
  | sl (t : Ty)
  deriving DecidableEq, Inhabited
structure DE where
  T : Nat -> Type
  dflt : (n : Nat) -> T n
  rp : (n : Nat) -> Rp (T n)
  dec : (n : Nat) -> DecidableEq (T n)
  enc : (n : Nat) -> T n -> List Value := fun _ _ => []
@[reducible] def Ty.den (E : DE) : Ty -> Type
 | .int => Int
 | .bool => Bool
 | .u8 => UInt8
 | .dig => Dig
 | .str => List UInt8
 | .ik _ => Int
 | .st n => E.T n
 | .sl t => List (t.den E)
def Ty.dflt (E : DE) : (t : Ty) -> t.den E
 | .int => (0 : Int)
 | .bool => false
 | .u8 => (0 : UInt8)
 | .dig => Dig.zero
 | .str => ([] : List UInt8)
 | .ik _ => (0 : Int)
 | .st n => E.dflt n
 | .sl _ => []
def a4y (s : List UInt8) : Value := .string ⟨s.toArray⟩
@[reducible] def g2a : Rp (List UInt8) := ⟨1, fun _ cs x => cs = [a4y x], fun h => by rw [h]; rfl, fun h => by rw [h]; intro u hu; rw [F3] at hu; subst hu; rfl, fun _ h => h⟩
@[reducible] def g6u (k : IntKind) : Rp Int := ⟨1, fun _ cs x => cs = [.int k x], fun h => by rw [h]; rfl, fun h => by rw [h]; intro u hu; rw [F3] at hu; subst hu; rfl, fun _ h => h⟩
@[reducible] def rpV : Rp Value := ⟨1, fun _ cs x => cs = [x] /\ x.oneCell' = true, fun h => by rw [h.1]; rfl, fun h => by rw [h.1]; intro u hu; rw [F3] at hu; subst hu; exact h.2, fun _ h => h⟩
instance Ty.dec (E : DE) : (t : Ty) -> DecidableEq (t.den E)
 | .int => inferInstanceAs (DecidableEq Int)
 | .bool => inferInstanceAs (DecidableEq Bool)
 | .u8 => inferInstanceAs (DecidableEq UInt8)
 | .dig => inferInstanceAs (DecidableEq Dig)
 | .str => inferInstanceAs (DecidableEq (List UInt8))
 | .ik _ => inferInstanceAs (DecidableEq Int)
 | .st n => E.dec n
 | .sl t => @instDecidableEqList _ (Ty.dec E t)
def Ty.enc (E : DE) : (t : Ty) -> t.den E -> Value
 | .int, x => .int .i64 x
 | .bool, x => .bool x
 | .u8, x => .int .u8 (UInt8.toNat x : Int)
 | .dig, d => .agg (Dig.cells d).toArray
 | .str, s => a4y s
 | .ik k, x => .int k x
 | .st n, x => .agg (E.enc n x).toArray
 | .sl _, _ => .nilFunc
instance Ty.rp (E : DE) : (t : Ty) -> Rp (t.den E)
 | .int => inferInstanceAs (Rp Int)
 | .bool => inferInstanceAs (Rp Bool)
 | .u8 => inferInstanceAs (Rp UInt8)
 | .dig => inferInstanceAs (Rp Dig)
 | .str => g2a
 | .ik k => g6u k
 | .st n => E.rp n
 | .sl t => @instRpList _ (Ty.rp E t)
def c2t : (C : Nat -> Type) -> (n m : Nat) -> C n -> Option (C m)
 | _, 0, 0, x => some x
 | C, n + 1, m + 1, x => c2t (fun k => C (k + 1)) n m x
 | _, 0, _ + 1, _ => none
 | _, _ + 1, 0, _ => none
def Ty.to : (C : Ty -> Type) -> (t u : Ty) -> C t -> Option (C u)
 | _, .int, .int, x => some x
 | _, .bool, .bool, x => some x
 | _, .u8, .u8, x => some x
 | _, .dig, .dig, x => some x
 | _, .str, .str, x => some x
 | C, .ik k, .ik j, x => if h : k = j then some (h ▸ x) else none
 | C, .st n, .st m, x => c2t (fun k => C (.st k)) n m x
 | C, .sl a, .sl b, x => Ty.to (fun t => C (.sl t)) a b x
 | _, _, _, _ => none
def c8d : ∀ {C : Nat -> Type} {n m : Nat} {x : C n} {y : C m}, c2t C n m x = some y -> ∃ h : n = m, h ▸ x = y
 | _, 0, 0, x, y, h => ⟨rfl, by simpa [c2t] using h⟩
 | C, n + 1, m + 1, x, y, h => by
  obtain ⟨e, h⟩ := c8d (C := fun k => C (k + 1)) h; subst e; exact ⟨rfl, h⟩
 | _, 0, _ + 1, _, _, h => by simp [c2t] at h
 | _, _ + 1, 0, _, _, h => by simp [c2t] at h
def Ty.to_ok : ∀ {t : Ty} {C : Ty -> Type} {u : Ty} {x : C t} {y : C u}, Ty.to C t u x = some y -> ∃ h : t = u, h ▸ x = y := by
 intro t
 induction t with
 | st n =>
  intro C u x y h; cases u <;> simp only [Ty.to] at h <;> try (cases h; done)
  obtain ⟨e, h⟩ := c8d (C := fun k => C (.st k)) h; subst e; exact ⟨rfl, h⟩
 | sl t ih =>
  intro C u x y h; cases u <;> simp only [Ty.to] at h <;> try (cases h; done)
  obtain ⟨e, h⟩ := ih (C := fun t => C (.sl t)) h; subst e; exact ⟨rfl, h⟩
 | ik k =>
  intro C u x y h; cases u <;> simp only [Ty.to] at h <;> try (cases h; done)
  rename_i j; by_cases hk : k = j
  ·subst hk; exact ⟨rfl, by simpa using h⟩
  ·rw [dif_neg hk] at h; cases h
 | _ =>
  intro C u x y h; cases u <;> simp only [Ty.to, A3] at h <;> first | (cases h; done) | exact ⟨rfl, h⟩
inductive SV (E : DE) : Type where
  | i (k : IntKind) (n : Int)
  | b (x : Bool)
  | lit (x : Bool)
  | bv (id : Nat)
  | u8 (x : UInt8)
  | dig (d : Dig)
  | str (s : List UInt8)
  | agg (l : List (SV E))
  | tup (l : List (SV E))
  | sl (t : Ty) (xs : List (t.den E))
  | nilp | nilm | nilf | nils
  | ptr (id off : Nat)
  | own (id : Nat)
  | oel (id i sz off : Nat)
  | mp (id : Nat)
  | ifc (T id off : Nat)
  | stm (id : Nat)
  | vw (id off : Nat)
  | otl (id lo sz : Nat)
  | elm (t : Ty) (x : t.den E) (off : Nat)
  | vec (k : IntKind) (n : Nat) (l : List Int)
  | vel (id off n i : Nat)
  | vsl (id off n lo len : Nat)
  | fn (f : Nat) (caps : List (SV E))
  | mth (x : SV E) (name : String)
  | nxt
  | undef
inductive HB (E : DE) where
  | box (T : Nat) (c : List (SV E))
  | arr (t : Ty) (e : Nat) (xs : List (t.den E))
  | fz (t : Ty) (xs : List (t.den E))
  | map (k v : Ty) (xs : List (k.den E × v.den E))
  | itr (mid ver kt : Nat) (k : Ty) (left : List (k.den E))
  | cur (mid ver kt : Nat) (k : Ty) (x : k.den E) (left : List (k.den E))
  | stp (mid ver : Nat) (k : Ty) (x : k.den E)
  | pts (e : Nat) (xs : List (SV E))
  | oth
structure Mn (E : DE) where
  G : Gh
  ν : Nat -> Value
  n : Nat
  bs : List Bool
  C : Nat -> HB E
  R : Nat -> List Bx
  O : Nat -> List (Nat × Obj)
def IsV {E : DE} (G : Gh) : (t : Ty) -> t.den E -> Value -> Prop
 | .st n, x, v => ∃ cs, v = .agg cs.toArray /\ (E.rp n).Is G cs x
 | .dig, d, v => v = .agg (Dig.cells d).toArray
 | .int, x, v => v = .int .i64 x
 | .bool, x, v => v = .bool x
 | .u8, x, v => v = .int .u8 (UInt8.toNat x : Int)
 | .str, x, v => v = a4y x
 | .ik k, x, v => v = .int k x
 | .sl t, xs, v => @Sl (t.den E) (t.rp E) G v xs
def Sl.mono_ {α : Type} [Rp α] {G G' : Gh} (hg : GLe G G') {v : Value} {xs : List α} (h : Sl G v xs) : Sl G' v xs := Sl.mono hg h
def IsV.mono {E : DE} {G G' : Gh} (hg : GLe G G') {t : Ty} {x : t.den E} {v : Value} (h : IsV G t x v) : IsV G' t x v := by
 cases t with
 | st n => obtain ⟨cs, h1, h2⟩ := h; exact ⟨cs, h1, (E.rp n).mono hg h2⟩
 | sl t => exact Sl.mono_ hg h
 | _ => exact h
@[reducible] def rlT (E : DE) (t : Ty) : Rl (t.den E) := ⟨fun G v x => IsV G t x v, fun hg h => IsV.mono hg h⟩
def MpT (E : DE) (G : Gh) (k v : Ty) (o : Obj) (xs : List (k.den E × v.den E)) : Prop := @MpO (k.den E) (v.den E) (rlT E v) (k.enc E) G o xs
def MpT.mono {E : DE} {G G' : Gh} (hg : GLe G G') {k v : Ty} {o : Obj} {xs : List (k.den E × v.den E)} (h : MpT E G k v o xs) : MpT E G' k v o xs := by
 letI := rlT E v
 exact MpO.mono hg h
variable {E : DE}
def Mn.b (m : Mn E) (id : Nat) : Bool := (m.bs[id]?).getD false
def L (m : Mn E) : SV E -> Value -> Prop
 | .i k n, v => v = .int k n
 | .b x, v => v = .bool x
 | .lit x, v => v = .bool x
 | .bv id, v => id < m.bs.length /\ v = .bool (m.b id)
 | .u8 x, v => v = .int .u8 (x.toNat : Int)
 | .str s, v => v = a4y s
 | .sl t xs, v => Sl m.G v xs
 | .nilp, v => v = .pointer none
 | .nilm, v => v = .map none
 | .nilf, v => v = .nilFunc
 | .nils, v => v = .slice none 0 0
 | .ptr id off, v => id < m.n /\ ∃ b o, m.ν id = .pointer (some ⟨b, o, none⟩) /\ v = .pointer (some ⟨b, o + off, none⟩)
 | .own id, v => id < m.n /\ v = m.ν id /\ ∃ A k c, m.ν id = .slice A k c
 | .oel id i sz off, v => id < m.n /\ ∃ b o n c, m.ν id = .slice (some ⟨b, o, none⟩) n c /\ i < n /\ v = .pointer (some ⟨b, o + i * sz + off, none⟩)
 | .mp id, v => id < m.n /\ v = m.ν id /\ ∃ b, m.ν id = .map (some b)
 | .ifc T id off, v => id < m.n /\ ∃ b o, m.ν id = .pointer (some ⟨b, o, none⟩) /\ v = .iface T (.pointer (some ⟨b, o + off, none⟩))
 | .vw id off, v => id < m.n /\ ∃ b o, m.ν id = .pointer (some ⟨b, o, none⟩) /\ v = .slice (some ⟨b, o + off, none⟩) 32 32
 | .otl id lo sz, v => id < m.n /\ ∃ A n c, m.ν id = .slice A n c /\ v = .slice (if c = lo then A else A.map (·.add (lo * sz))) (n - lo) (c - lo)
 | .stm id, v => id < m.n /\ v = m.ν id /\ ∃ st, m.ν id = .int .i64 st
 | .elm _ x off, v => ∃ b o row, v = .pointer (some ⟨b, o + off, none⟩) /\ a4k m.G b o row /\ Rp.Is m.G row x
 | .vel id off n i, v => id < m.n /\ i < n /\ ∃ b o, m.ν id = .pointer (some ⟨b, o, none⟩) /\ v = .pointer (some ⟨b, o + off + i, none⟩)
 | .vsl id off n lo len, v => id < m.n /\ lo + len <= n /\ lo < n /\ ∃ b o, m.ν id = .pointer (some ⟨b, o, none⟩) /\ v = .slice (some ⟨b, o + off + lo, none⟩) len (n - lo)
 | _, _ => False
def C1 (m : Mn E) : SV E -> List Value -> Prop
 | .dig d, cs => cs = d.cells
 | .vec k n l, cs => cs = l.map (Value.int k) /\ l.length = n
 | x, cs => ∃ v, cs = [v] /\ L m x v
def RC (m : Mn E) : List (SV E) -> List Value -> Prop
 | [], cs => cs = []
 | a :: r, cs => ∃ c1 c2, cs = c1 ++ c2 /\ C1 m a c1 /\ RC m r c2
def LL (m : Mn E) : List (SV E) -> List Value -> Prop
 | [], vs => vs = []
 | a :: r, vs => ∃ v us, vs = v :: us /\ L m a v /\ LL m r us
def V1 (m : Mn E) : SV E -> Value -> Prop
 | .dig d, v => v = .agg d.cells.toArray
 | .vec k n l, v => v = .agg (l.map (Value.int k)).toArray /\ l.length = n
 | .agg l, v => ∃ cs, v = .agg cs.toArray /\ RC m l cs
 | .fn f caps, v => ∃ vs, v = .func (.func f) #[] vs.toArray /\ LL m caps vs
 | .mth x name, v => ∃ u, v = .func (.method name) #[u] #[] /\ L m x u
 | x, v => L m x v
def LV (m : Mn E) : List (SV E) -> List Value -> Prop
 | [], vs => vs = []
 | a :: r, vs => ∃ v us, vs = v :: us /\ V1 m a v /\ LV m r us
def RV (m : Mn E) : SV E -> Value -> Prop
 | .tup l, v => ∃ vs, v = .tuple vs.toArray /\ LV m l vs
 | .undef, v => v = Go.undef
 | .nxt, v => ∃ vs : Array Value, v = .tuple vs /\ vs[0]? = some (.bool true)
 | x, v => V1 m x v
def SV.w : SV E -> Nat
 | .dig _ => 32
 | .vec _ n _ => n
 | _ => 1
def wid : List (SV E) -> Nat
 | [] => 0
 | a :: r => a.w + wid r
def C1.len {m : Mn E} {x : SV E} {cs : List Value} (h : C1 m x cs) : cs.length = x.w := by
 cases x <;> first | (obtain ⟨_, rfl, _⟩ := h; rfl) | (have h : cs = _ := h; rw [h]; exact Dig.length_cells _) | (obtain ⟨rfl, h⟩ := h; rw [C5]; exact h)
def RC.len {m : Mn E} : ∀ {l : List (SV E)} {cs : List Value}, RC m l cs -> cs.length = wid l
 | [], _, h => by rw [show _ = _ from h]; rfl
 | _ :: _, _, ⟨_, _, h, h1, h2⟩ => by rw [h, B7, h1.len, h2.len]; rfl
def L.one {m : Mn E} {x : SV E} {v : Value} (h : L m x v) : v.oneCell' = true := by
 cases x <;> simp only [L] at h <;> first
  | (subst h; rfl)
  | (obtain ⟨_, rfl⟩ := h; rfl)
  | (obtain ⟨_, _, h, _⟩ := h; rw [h]; rfl)
  | (obtain ⟨_, _, _, _, rfl⟩ := h; rfl)
  | (obtain ⟨_, h, _, _, _, h2⟩ := h; rw [h, h2]; rfl)
  | (obtain ⟨_, h, _, h2⟩ := h; rw [h, h2]; rfl)
  | (obtain ⟨_, _, _, _, _, _, _, rfl⟩ := h; rfl)
  | (obtain ⟨_, _, _, rfl, _⟩ := h; rfl)
  | (obtain ⟨_, h, _, h2⟩ := h; rw [h, h2]; rfl)
  | (obtain ⟨_, _, _, _, _, rfl⟩ := h; rfl)
  | (obtain ⟨_, _, _, _, _, _, rfl⟩ := h; rfl)
def C1.one {m : Mn E} {x : SV E} {cs : List Value} (h : C1 m x cs) : ∀ u ∈ cs, u.oneCell' = true := by
 cases x <;> first
  | (obtain ⟨v, rfl, hv⟩ := h; intro u hu; rw [F3] at hu; subst hu; exact hv.one)
  | (have h : cs = _ := h; rw [h]; exact a0p _)
  | (obtain ⟨rfl, _⟩ := h; intro u hu; obtain ⟨z, _, rfl⟩ := E1.1 hu; rfl)
def RC.one {m : Mn E} : ∀ {l : List (SV E)} {cs : List Value}, RC m l cs -> ∀ u ∈ cs, u.oneCell' = true
 | [], _, h => by rw [show _ = _ from h]; intro u hu; cases hu
 | _ :: _, _, ⟨_, _, h, h1, h2⟩ => by
  rw [h]; intro u hu; rcases D4.1 hu with hu | hu
  ·exact h1.one u hu
  ·exact h2.one u hu
structure Up (m m' : Mn E) : Prop where
  g : GLe m.G m'.G
  n : m.n <= m'.n
  ν : ∀ i, i < m.n -> m'.ν i = m.ν i
  b : m.bs.length <= m'.bs.length
  bs : ∀ i, i < m.bs.length -> m'.b i = m.b i
  c : ∀ i, i < m.n -> m'.C i = m.C i
  r : ∀ i, i < m.n -> m'.R i = m.R i
  o : ∀ i, i < m.n -> m'.O i = m.O i
def Up.refl (m : Mn E) : Up m m := ⟨fun _ _ h => h, B9 _, fun _ _ => rfl, B9 _, fun _ _ => rfl, fun _ _ => rfl, fun _ _ => rfl, fun _ _ => rfl⟩
def Up.trans {a b c : Mn E} (h : Up a b) (k : Up b c) : Up a c :=
 ⟨fun x o hx => k.g x o (h.g x o hx), D5 h.n k.n, fun i hi => (k.ν i (C3 hi h.n)).trans (h.ν i hi), D5 h.b k.b, fun i hi => (k.bs i (C3 hi h.b)).trans (h.bs i hi), fun i hi => (k.c i (C3 hi h.n)).trans (h.c i hi), fun i hi => (k.r i (C3 hi h.n)).trans (h.r i hi), fun i hi => (k.o i (C3 hi h.n)).trans (h.o i hi)⟩
def L.up {m m' : Mn E} (u : Up m m') {x : SV E} {v : Value} (h : L m x v) : L m' x v := by
 cases x <;> simp only [L] at h ⊢ <;> try exact h
 ·exact ⟨C3 h.1 u.b, by rw [u.bs _ h.1]; exact h.2⟩
 ·exact Sl.mono u.g h
 ·obtain ⟨h1, b, o, h2, h3⟩ := h; exact ⟨C3 h1 u.n, b, o, (u.ν _ h1).trans h2, h3⟩
 ·rw [u.ν _ h.1]; exact ⟨C3 h.1 u.n, h.2⟩
 ·rw [u.ν _ h.1]; exact ⟨C3 h.1 u.n, h.2⟩
 ·rw [u.ν _ h.1]; exact ⟨C3 h.1 u.n, h.2⟩
 ·rw [u.ν _ h.1]; exact ⟨C3 h.1 u.n, h.2⟩
 ·rw [u.ν _ h.1]; exact ⟨C3 h.1 u.n, h.2⟩
 ·rw [u.ν _ h.1]; exact ⟨C3 h.1 u.n, h.2⟩
 ·rw [u.ν _ h.1]; exact ⟨C3 h.1 u.n, h.2⟩
 ·obtain ⟨b, o, row, h1, h2, h3⟩ := h; exact ⟨b, o, row, h1, h2.mono u.g, Rp.mono u.g h3⟩
 ·obtain ⟨h1, h0, b, o, h2, h3⟩ := h; exact ⟨C3 h1 u.n, h0, b, o, (u.ν _ h1).trans h2, h3⟩
 ·obtain ⟨h1, h0, h4, b, o, h2, h3⟩ := h; exact ⟨C3 h1 u.n, h0, h4, b, o, (u.ν _ h1).trans h2, h3⟩
def C1.up {m m' : Mn E} (u : Up m m') {x : SV E} {cs : List Value} (h : C1 m x cs) : C1 m' x cs := by
 cases x <;> first | exact h | (obtain ⟨v, h1, h2⟩ := h; exact ⟨v, h1, h2.up u⟩)
def RC.up {m m' : Mn E} (u : Up m m') : ∀ {l : List (SV E)} {cs : List Value}, RC m l cs -> RC m' l cs
 | [], _, h => h
 | _ :: _, _, ⟨c1, c2, h, h1, h2⟩ => ⟨c1, c2, h, h1.up u, h2.up u⟩
def LL.up {m m' : Mn E} (u : Up m m') : ∀ {l : List (SV E)} {vs : List Value}, LL m l vs -> LL m' l vs
 | [], _, h => h
 | _ :: _, _, ⟨c1, c2, h, h1, h2⟩ => ⟨c1, c2, h, h1.up u, h2.up u⟩
def V1.up {m m' : Mn E} (u : Up m m') {x : SV E} {v : Value} (h : V1 m x v) : V1 m' x v := by
 cases x <;> simp only [V1] at h ⊢ <;> first
  | exact L.up u h
  | (obtain ⟨cs, h1, h2⟩ := h; exact ⟨cs, h1, RC.up u h2⟩)
  | (obtain ⟨cs, h1, h2⟩ := h; exact ⟨cs, h1, LL.up u h2⟩)
  | (obtain ⟨cs, h1, h2⟩ := h; exact ⟨cs, h1, L.up u h2⟩)
  | exact h
def LV.up {m m' : Mn E} (u : Up m m') : ∀ {l : List (SV E)} {vs : List Value}, LV m l vs -> LV m' l vs
 | [], _, h => h
 | _ :: _, _, ⟨c1, c2, h, h1, h2⟩ => ⟨c1, c2, h, h1.up u, h2.up u⟩
def RV.up {m m' : Mn E} (u : Up m m') {x : SV E} {v : Value} (h : RV m x v) : RV m' x v := by
 cases x <;> simp only [RV] at h ⊢ <;> first
  | exact V1.up u h
  | (obtain ⟨vs, h1, h2⟩ := h; exact ⟨vs, h1, LV.up u h2⟩)
  | exact h
end Go.Vz
namespace Go.Vz
open Go Go.Gx
inductive PT (α : Type) where
  | lf
  | nd (l : PT α) (v : Option α) (r : PT α)
namespace PT
variable {α : Type}
def get : PT α -> Nat -> Option α
 | .lf, _ => none
 | .nd l v r, n => match n with
  | 0 => v
  | n + 1 => bif Nat.beq (n % 2) 0 then l.get (n / 2) else r.get (n / 2)
def put : Nat -> PT α -> Nat -> Option α -> PT α
 | 0, t, _, _ => t
 | _ + 1, .lf, 0, v => .nd .lf v .lf
 | _ + 1, .nd l _ r, 0, v => .nd l v r
 | f + 1, .lf, n + 1, v => bif Nat.beq (n % 2) 0 then .nd (put f .lf (n / 2) v) none .lf else .nd .lf none (put f .lf (n / 2) v)
 | f + 1, .nd l u r, n + 1, v => bif Nat.beq (n % 2) 0 then .nd (put f l (n / 2) v) u r else .nd l u (put f r (n / 2) v)
def b0r {a b : Nat} : Nat.beq a b = true ↔ a = b := ⟨A8, fun h => by rw [h]; exact T9 b⟩
def get_put : ∀ (f : Nat) (t : PT α) (n : Nat) (v : Option α) (m : Nat), n + 1 < 2 ^ f -> (put f t n v).get m = if m = n then v else t.get m := by
 intro f
 induction f with
 | zero => intro t n v m h; simp at h
 | succ f ih =>
  intro t n v m h; have hp : 2 ^ (f + 1) = 2 ^ f + 2 ^ f := by rw [R5]; omega
  cases n with
  | zero =>
   cases t <;> cases m <;> simp [put, get]
  | succ n =>
   have hn : n / 2 + 1 < 2 ^ f := by omega
   cases hb : Nat.beq (n % 2) 0 with
   | true =>
    have hb' := b0r.1 hb; cases m with
    | zero => cases t <;> simp [put, hb, get]
    | succ m =>
     cases hm : Nat.beq (m % 2) 0 with
     | true =>
      have hm' := b0r.1 hm; have e : (m + 1 = n + 1) ↔ m / 2 = n / 2 := by omega
      cases t <;> simp only [put, hb, get, hm, B5, ih _ _ _ _ hn] <;> simp only [e]
     | false =>
      have hm' : m % 2 ≠ 0 := fun h0 => by rw [b0r.2 h0] at hm; cases hm
      have e : ¬ (m + 1 = n + 1) := by omega
      cases t <;> simp only [put, hb, get, hm, B5, B8, F7 e]
   | false =>
    have hb' : n % 2 ≠ 0 := fun h0 => by rw [b0r.2 h0] at hb; cases hb
    cases m with
    | zero => cases t <;> simp [put, hb, get]
    | succ m =>
     cases hm : Nat.beq (m % 2) 0 with
     | true =>
      have hm' := b0r.1 hm; have e : ¬ (m + 1 = n + 1) := by omega
      cases t <;> simp only [put, hb, get, hm, B5, B8, F7 e]
     | false =>
      have hm' : m % 2 ≠ 0 := fun h0 => by rw [b0r.2 h0] at hm; cases hm
      have e : (m + 1 = n + 1) ↔ m / 2 = n / 2 := by omega
      cases t <;> simp only [put, hb, get, hm, B8, ih _ _ _ _ hn] <;> simp only [e]
end PT
structure St (E : DE) where
  sl : PT (SV E) := .lf
  hp : List (Nat × Nat × HB E) := []
  n : Nat := 0
  bs : List Bool := []
  kn : List Nat := []
  md : Bool := true
def o6 {α : Type} : List (Nat × α) -> Nat -> Option α
 | [], _ => none
 | (k, v) :: r, t => bif Nat.beq k t then some v else o6 r t
variable {E : DE}
def HB1 (m : Mn E) : HB E -> Value -> List Bx -> List (Nat × Obj) -> Prop
 | .box T c, v, bs, os => ∃ b cs, bs = [(b, T, cs)] /\ os = [] /\ v = .pointer (some ⟨b, 0, none⟩) /\ RC m c cs
 | .arr _ e xs, v, bs, os => ∃ o, bs = Option.toList o /\ os = [] /\ Ow m.G o e v xs /\ xs.length <= d4
 | .fz _ xs, v, bs, os => bs = [] /\ os = [] /\ Sl m.G v xs
 | .map k v xs, u, bs, os => ∃ b o, bs = [] /\ os = [(b, o)] /\ u = .map (some b) /\ MpT E m.G k v o xs
 | .itr mid ver kt k left, u, bs, os => ∃ r it b o, bs = [] /\ os = [(r, it)] /\ u = .pointer (some ⟨r, 0, none⟩) /\ mid < m.n /\ ver < m.n /\ m.ν mid = .map (some b) /\ m.O ver = [(b, o)] /\ ItO (k.enc E) o it b left
 | .cur mid ver kt k x left, u, bs, os => ∃ r it b o, bs = [] /\ os = [(r, it)] /\ u = .pointer (some ⟨r, 0, none⟩) /\ mid < m.n /\ ver < m.n /\ m.ν mid = .map (some b) /\ m.O ver = [(b, o)] /\ ItO (k.enc E) o it b left /\ d9u (k.enc E) o it b x
 | .stp mid ver k x, u, bs, os => ∃ b o st, bs = [] /\ os = [] /\ u = .int .i64 st /\ mid < m.n /\ ver < m.n /\ m.ν mid = .map (some b) /\ m.O ver = [(b, o)] /\ StO (k.enc E) o x st
 | .pts e xs, v, bs, os => ∃ o vs, bs = Option.toList o /\ os = [] /\ @Ow Value rpV m.G o e v vs /\ vs.length <= d4 /\ LL m xs vs
 | .oth, _, _, _ => True
def HB1.up {m m' : Mn E} (u : Up m m') {x : HB E} {v : Value} {bs : List Bx} {os : List (Nat × Obj)} (h : HB1 m x v bs os) : HB1 m' x v bs os := by
 cases x with
 | box T c => obtain ⟨b, cs, h1, h2, h3, h4⟩ := h; exact ⟨b, cs, h1, h2, h3, h4.up u⟩
 | arr t e xs => obtain ⟨o, h1, h2, h3, h4⟩ := h; exact ⟨o, h1, h2, h3.mono u.g, h4⟩
 | fz t xs => obtain ⟨h1, h2, h3⟩ := h; exact ⟨h1, h2, Sl.mono u.g h3⟩
 | map k v xs => obtain ⟨b, o, h1, h2, h3, h4⟩ := h; exact ⟨b, o, h1, h2, h3, h4.mono u.g⟩
 | itr mid ver kt k left => obtain ⟨r, it, b, o, h1, h2, h3, h4, h5, h6, h7, h8⟩ := h; exact ⟨r, it, b, o, h1, h2, h3, C3 h4 u.n, C3 h5 u.n, (u.ν _ h4).trans h6, (u.o _ h5).trans h7, h8⟩
 | cur mid ver kt k x left => obtain ⟨r, it, b, o, h1, h2, h3, h4, h5, h6, h7, h8⟩ := h; exact ⟨r, it, b, o, h1, h2, h3, C3 h4 u.n, C3 h5 u.n, (u.ν _ h4).trans h6, (u.o _ h5).trans h7, h8⟩
 | stp mid ver k x => obtain ⟨b, o, st, h1, h2, h3, h4, h5, h6, h7, h8⟩ := h; exact ⟨b, o, st, h1, h2, h3, C3 h4 u.n, C3 h5 u.n, (u.ν _ h4).trans h6, (u.o _ h5).trans h7, h8⟩
 | pts e xs => obtain ⟨o, vs, h1, h2, h3, h4, h5⟩ := h; letI := rpV; exact ⟨o, vs, h1, h2, h3.mono u.g, h4, h5.up u⟩
 | oth => trivial
def LL.at_ {m : Mn E} : ∀ {xs : List (SV E)} {vs : List Value}, LL m xs vs -> xs.length = vs.length /\ ∀ (i : Nat) (x : SV E), xs[i]? = some x -> ∃ v, vs[i]? = some v /\ L m x v
 | [], vs, h => by have h : vs = [] := h; subst h; exact ⟨rfl, fun i x hi => by simp at hi⟩
 | a :: r, vs, ⟨v, us, e, h1, h2⟩ => by
  subst e; obtain ⟨g1, g2⟩ := LL.at_ h2; refine ⟨by simp [g1], fun i x hi => ?_⟩; cases i with
  | zero => simp only [E0, A3] at hi; subst hi; exact ⟨v, rfl, h1⟩
  | succ i => simpa using g2 i x (by simpa using hi)
def LL.app {m : Mn E} : ∀ {xs : List (SV E)} {vs : List Value} {ys : List (SV E)} {us : List Value}, LL m xs vs -> LL m ys us -> LL m (xs ++ ys) (vs ++ us)
 | [], vs, ys, us, h, k => by have h : vs = [] := h; subst h; exact k
 | a :: r, vs, ys, us, ⟨v, vs', e, h1, h2⟩, k => by subst e; exact ⟨v, vs' ++ us, rfl, h1, LL.app h2 k⟩
def HR (m : Mn E) : List (Nat × Nat × HB E) -> List Bx -> List (Nat × Obj) -> Prop
 | [], bl, L => bl = [] /\ L = []
 | (id, k, x) :: r, bl, L => ∃ bl' L', bl = m.R k ++ bl' /\ L = m.O k ++ L' /\ id < m.n /\ k < m.n /\ m.C k = x /\ HB1 m x (m.ν id) (m.R k) (m.O k) /\ HR m r bl' L'
def HR.up {m m' : Mn E} (u : Up m m') : ∀ {h : List (Nat × Nat × HB E)} {bl : List Bx} {L : List (Nat × Obj)}, HR m h bl L -> HR m' h bl L
 | [], _, _, h => h
 | _ :: _, _, _, ⟨bl', L', h1, h2, h3, h4, h5, h6, h7⟩ => ⟨bl', L', by rw [u.r _ h4]; exact h1, by rw [u.o _ h4]; exact h2, C3 h3 u.n, C3 h4 u.n, (u.c _ h4).trans h5, by rw [u.ν _ h3, u.r _ h4, u.o _ h4]; exact h6.up u, h7.up u⟩
def e0e : List (Nat × Nat × HB E) -> Nat -> Nat -> HB E -> List (Nat × Nat × HB E)
 | [], _, _, _ => []
 | (k, q, v) :: r, id, n, x => bif Nat.beq k id then (k, n, x) :: r else (k, q, v) :: e0e r id n x
def Mn.add (m : Mn E) (v : Value) (x : HB E) (bs : List Bx) (os : List (Nat × Obj)) : Mn E :=
 { m with ν := fun i => if i = m.n then v else m.ν i, n := m.n + 1, C := fun i => if i = m.n then x else m.C i, R := fun i => if i = m.n then bs else m.R i, O := fun i => if i = m.n then os else m.O i }
section
variable {m : Mn E} {v : Value} {x : HB E} {bs : List Bx} {os : List (Nat × Obj)}
def Mn.add_up : Up m (m.add v x bs os) :=
 ⟨fun _ _ h => h, R4 _, fun i hi => F7 (W2 hi), B9 _, fun _ _ => rfl, fun i hi => F7 (W2 hi), fun i hi => F7 (W2 hi), fun i hi => F7 (W2 hi)⟩
def Mn.add_C : (m.add v x bs os).C m.n = x := F8 rfl
def Mn.add_R : (m.add v x bs os).R m.n = bs := F8 rfl
def Mn.add_O : (m.add v x bs os).O m.n = os := F8 rfl
def Mn.add_ν : (m.add v x bs os).ν m.n = v := F8 rfl
def HR.new {hp : List (Nat × Nat × HB E)} {bl : List Bx} {L : List (Nat × Obj)} (h : HR m hp bl L) (hx : HB1 m x v bs os) : HR (m.add v x bs os) ((m.n, m.n, x) :: hp) (bs ++ bl) (os ++ L) :=
 ⟨bl, L, by rw [Mn.add_R], by rw [Mn.add_O], N4 _, N4 _, Mn.add_C, by rw [Mn.add_R, Mn.add_O, Mn.add_ν]; exact hx.up Mn.add_up, h.up Mn.add_up⟩
end
def HR.split {m : Mn E} {id k : Nat} {x : HB E} : ∀ {h : List (Nat × Nat × HB E)} {bl : List Bx} {L : List (Nat × Obj)}, HR m h bl L -> o6 h id = some (k, x) ->
  ∃ p q A B, bl = p ++ (m.R k ++ q) /\ L = A ++ (m.O k ++ B) /\ id < m.n /\ k < m.n /\ m.C k = x /\ HB1 m x (m.ν id) (m.R k) (m.O k) /\
   ∀ (m' : Mn E) (x' : HB E) (bs : List Bx) (os : List (Nat × Obj)) (v : Value), Up m m' -> HB1 m' x' (m.ν id) bs os -> HR (m'.add v x' bs os) (e0e h id m'.n x') (p ++ (bs ++ q)) (A ++ (os ++ B))
 | [], _, _, _, hg => by cases hg
 | (k', j, y) :: r, bl, L, ⟨bl', L', h1, h2, h3, h4, h5, h6, h7⟩, hg => by
  unfold o6 at hg; cases hb : Nat.beq k' id with
  | true =>
   rw [hb] at hg; simp only [B5, A3, I4] at hg; obtain ⟨rfl, rfl⟩ := hg; have := A8 hb; subst this; refine ⟨[], bl', [], L', h1, h2, h3, h4, h5, h6, fun m' x' bs os v u hx => ?_⟩; simp only [e0e, hb, B5]; exact ⟨bl', L', by rw [Mn.add_R]; rfl, by rw [Mn.add_O]; rfl, Nat.lt_succ_of_lt (C3 h3 u.n), N4 _, Mn.add_C, by
    rw [Mn.add_R, Mn.add_O, Mn.add_up.ν _ (C3 h3 u.n), u.ν _ h3]; exact hx.up Mn.add_up, (h7.up u).up Mn.add_up⟩
  | false =>
   rw [hb] at hg; obtain ⟨p, q, A, B, g1, g2, g3, g4, g5, g6, g7⟩ := h7.split hg; refine ⟨m.R j ++ p, q, m.O j ++ A, B, by rw [h1, g1, B6], by rw [h2, g2, B6], g3, g4, g5, g6, fun m' x' bs os v u hx => ?_⟩; simp only [e0e, hb, B8]; have u2 : Up m (m'.add v x' bs os) := u.trans Mn.add_up; exact ⟨p ++ (bs ++ q), A ++ (os ++ B), by rw [u2.r _ h4, B6], by rw [u2.o _ h4, B6], C3 h3 u2.n, C3 h4 u2.n, (u2.c _ h4).trans h5, by
    rw [u2.ν _ h3, u2.r _ h4, u2.o _ h4]; exact h6.up u2, g7 m' x' bs os v u hx⟩
section
variable {w0 : World} {G0 : Gh}
structure RelH (w0 : World) (G0 : Gh) (s : St E) (m : Mn E) (w : World) : Prop where
  bx : ∃ bl L, Cx w0 G0 m.G w ⟨[], L⟩ /\ Bxs m.G w w0.heap.size bl ⟨[], L⟩ /\ HR m s.hp bl L
  n : m.n = s.n
  bs : m.bs = s.bs
structure Rel (w0 : World) (G0 : Gh) (s : St E) (m : Mn E) (e : Env) (w : World) : Prop extends RelH w0 G0 s m w where
  sl : ∀ t x, s.sl.get t = some x -> ∃ v, e t = some v /\ RV m x v
def RelH.holds {s : St E} {m : Mn E} {w : World} (r : RelH w0 G0 s m w) : Holds m.G w := by obtain ⟨_, _, h, _⟩ := r.bx; exact h.holds
def cst : Value -> Option (SV E)
 | .int .u8 n => bif decide (0 <= n) && decide (n < 256) then some (.u8 (UInt8.ofNat n.toNat)) else none
 | .int k n => some (.i k n)
 | .bool b => some (.lit b)
 | .string s => some (.str s.data.toList)
 | .pointer none => some .nilp
 | .map none => some .nilm
 | .nilFunc => some .nilf
 | .slice none 0 0 => some .nils
 | _ => none
def f4r {m : Mn E} {v : Value} {x : SV E} (h : cst v = some x) : RV m x v := by
 unfold cst at h
 split at h
 ·rename_i n; cases hb : decide (0 <= n) && decide (n < 256) with
  | false => rw [hb] at h; cases h
  | true =>
   rw [hb] at h; simp only [B5, A3] at h; subst h; simp only [A7, C6] at hb; show Value.int .u8 n = .int .u8 (((UInt8.ofNat n.toNat).toNat : Nat) : Int); have : (UInt8.ofNat n.toNat).toNat = n.toNat := by simp; omega
   rw [this]; congr 1; omega
 all_goals first | (cases h; done) | (cases h; rfl)
def b7i (h : List (Nat × Nat × HB E)) : SV E -> SV E
 | .own id => match o6 h id with | some (_, .fz t xs) => .sl t xs | _ => .own id
 | x => x
def rsv (h : List (Nat × Nat × HB E)) : SV E -> SV E
 | .own id => match o6 h id with | some (_, .fz t xs) => .sl t xs | _ => .own id
 | .agg l => .agg (l.map (b7i h))
 | x => x
def L.rsv {m : Mn E} {h : List (Nat × Nat × HB E)} {bl : List Bx} {Q : List (Nat × Obj)} (hH : HR m h bl Q) {x : SV E} {v : Value} (hv : L m x v) : L m (b7i h x) v := by
 cases x <;> try exact hv
 simp only [b7i]
 split
 ·rename_i hg; obtain ⟨_, _, _, _, _, _, _, _, _, h6, _⟩ := hH.split hg; obtain ⟨_, h2, _⟩ := hv; rw [h2]; exact h6.2.2
 ·exact hv
def C1.rsv {m : Mn E} {h : List (Nat × Nat × HB E)} {bl : List Bx} {Q : List (Nat × Obj)} (hH : HR m h bl Q) {x : SV E} {cs : List Value} (hv : C1 m x cs) : C1 m (b7i h x) cs := by
 cases x <;> try exact hv
 obtain ⟨v, rfl, hv⟩ := hv
 have := L.rsv hH hv
 revert this
 simp only [b7i]
 split <;> exact fun h => ⟨v, rfl, h⟩
def RC.rsv {m : Mn E} {h : List (Nat × Nat × HB E)} {bl : List Bx} {Q : List (Nat × Obj)} (hH : HR m h bl Q) : ∀ {l : List (SV E)} {cs : List Value}, RC m l cs -> RC m (l.map (b7i h)) cs
 | [], _, hv => hv
 | _ :: _, _, ⟨c1, c2, e, h1, h2⟩ => ⟨c1, c2, e, h1.rsv hH, h2.rsv hH⟩
def RV.rsv {m : Mn E} {h : List (Nat × Nat × HB E)} {bl : List Bx} {Q : List (Nat × Obj)} (hH : HR m h bl Q) {x : SV E} {v : Value} (hv : RV m x v) : RV m (rsv h x) v := by
 cases x <;> try exact hv
 ·obtain ⟨cs, h1, h2⟩ := hv; exact ⟨cs, h1, h2.rsv hH⟩
 ·have hv : L m (.own _) v := hv; have := L.rsv hH hv
  revert this
  simp only [b7i, Vz.rsv]; split <;> exact fun h => by first | exact h | exact (show V1 m _ v from h)
def opd (s : St E) : Operand -> Option (SV E)
 | .tmp t => match s.sl.get t with | some x => some (rsv s.hp x) | none => none
 | .const v => cst v
 | .func f => some (.fn f [])
 | .global _ => none
def d8 {s : St E} {m : Mn E} {e : Env} {w : World} (r : Rel w0 G0 s m e w) {x : Operand} {y : SV E} (h : opd s x = some y) : ∃ v, opv e x = some v /\ RV m y v := by
 cases x with
 | tmp t =>
  simp only [opd] at h; split at h
  ·rename_i x hx; cases h; obtain ⟨v, h1, h2⟩ := r.sl t x hx; obtain ⟨_, _, _, _, hH⟩ := r.bx; exact ⟨v, h1, h2.rsv hH⟩
  ·cases h
 | const v => exact ⟨v, rfl, f4r h⟩
 | global g => cases h
 | func f => simp only [opd, A3] at h; subst h; exact ⟨_, rfl, [], rfl, rfl⟩
def St.put (s : St E) (d : Option Nat) (x : Option (SV E)) : St E := match d with | none => s | some d => { s with sl := s.sl.put 12 d x }
def dOk (d : Option Nat) : Bool := match d with | none => true | some d => Nat.blt d 4000
def Rel.put {s : St E} {m : Mn E} {e : Env} {w : World} (r : Rel w0 G0 s m e w) {d : Option Nat} (hd : dOk d = true) {x : Option (SV E)} {v : Value} (hx : ∀ y, x = some y -> RV m y v) : Rel w0 G0 (s.put d x) m (e.putO d v) w := by
 cases d with
 | none => exact r
 | some d =>
  have hlt : d + 1 < 2 ^ 12 := by have : d < 4000 := C2 hd; omega
  refine ⟨⟨r.bx, r.n, r.bs⟩, fun t y ht => ?_⟩; simp only [St.put] at ht; rw [PT.get_put _ _ _ _ _ hlt] at ht; by_cases htd : t = d
  ·subst htd; rw [F8 rfl] at ht; exact ⟨v, by simp [Env.putO, Env.put, T9], hx y ht⟩
  ·rw [F7 htd] at ht; obtain ⟨u, h1, h2⟩ := r.sl t y ht; exact ⟨u, by simp [Env.putO, Env.put, Gx.beq_false htd, h1], h2⟩
def Rel.up {s : St E} {m m' : Mn E} {e : Env} {w w' : World} {s' : St E} (r : Rel w0 G0 s m e w) (u : Up m m') (h : RelH w0 G0 s' m' w') : Rel w0 G0 { s with hp := s'.hp, n := s'.n, bs := s'.bs, kn := s'.kn } m' e w' :=
 ⟨⟨h.bx, h.n, h.bs⟩, fun t x ht => by obtain ⟨v, h1, h2⟩ := r.sl t x ht; exact ⟨v, h1, h2.up u⟩⟩
def St.setb (s : St E) (id : Nat) (q : Bool) : St E := { s with bs := s.bs.set id q, kn := id :: s.kn }
def Rel.setb {s : St E} {m : Mn E} {e : Env} {w : World} (r : Rel w0 G0 s m e w) {id : Nat} {q : Bool} (h : s.bs[id]? = some q) : Rel w0 G0 (s.setb id q) m e w := by
 have : s.bs.set id q = s.bs := by
  apply J1; intro i; rw [M9]; split
  ·rename_i hi; subst hi; split
   ·exact h.symm
   ·rename_i hl; rw [I0 (by omega)]
  ·rfl
 unfold St.setb; rw [this]; exact ⟨⟨r.bx, r.n, r.bs⟩, r.sl⟩
def St.cmp (s : St E) (d : Option Nat) (b : Bool) : St E := ({ s with bs := s.bs ++ [b] } : St E).put d (some (.bv s.bs.length))
def Mn.cmp (m : Mn E) (b : Bool) : Mn E := { m with bs := m.bs ++ [b] }
def Mn.cmp_up (m : Mn E) (b : Bool) : Up m (m.cmp b) :=
 ⟨fun _ _ h => h, B9 _, fun _ _ => rfl, by simp [Mn.cmp], fun i hi => by unfold Mn.b Mn.cmp; simp only []; rw [F4 hi], fun _ _ => rfl, fun _ _ => rfl, fun _ _ => rfl⟩
def Rel.cmp {s : St E} {m : Mn E} {e : Env} {w : World} (r : Rel w0 G0 s m e w) {d : Option Nat} (hd : dOk d = true) {b : Bool} : Rel w0 G0 (s.cmp d b) (m.cmp b) (e.putO d (.bool b)) w := by
 obtain ⟨bl, L, hC, hB, hH⟩ := r.bx
 have r1 : Rel w0 G0 ({ s with bs := s.bs ++ [b] } : St E) (m.cmp b) e w :=
  ⟨⟨⟨bl, L, hC, hB, hH.up (m.cmp_up b)⟩, r.n, by simp [Mn.cmp, r.bs]⟩, fun t x ht => by obtain ⟨v, h1, h2⟩ := r.sl t x ht; exact ⟨v, h1, h2.up (m.cmp_up b)⟩⟩
 refine r1.put hd fun y hy => ?_
 cases hy
 refine ⟨by simp [Mn.cmp, r.bs], ?_⟩
 unfold Mn.b Mn.cmp
 simp [r.bs]
def St.putV (s : St E) (d : Option Nat) (x : SV E) : St E := match x with
 | .b q => s.cmp d q
 | x => s.put d (some x)
def Rel.putV {s : St E} {m : Mn E} {e : Env} {w : World} (r : Rel w0 G0 s m e w) {d : Option Nat} (hd : dOk d = true) {x : SV E} {v : Value} (hx : RV m x v) : ∃ m', Up m m' /\ Rel w0 G0 (s.putV d x) m' (e.putO d v) w := by
 unfold St.putV
 split
 ·rename_i q; have hx : v = .bool q := hx; subst hx; exact ⟨_, m.cmp_up q, r.cmp hd⟩
 ·exact ⟨m, Up.refl m, r.put hd fun y hy => by cases hy; exact hx⟩
end
variable {E : DE}
def a0u : Nat -> List (SV E) -> Option (List (SV E))
 | 0, l => some l
 | _ + 1, [] => none
 | n + 1, a :: r => bif Nat.ble a.w (n + 1) then a0u (n + 1 - a.w) r else none
def a1y : Nat -> List (SV E) -> Option (List (SV E))
 | 0, _ => some []
 | _ + 1, [] => none
 | n + 1, a :: r => bif Nat.ble a.w (n + 1) then match a1y (n + 1 - a.w) r with | some l => some (a :: l) | none => none else none
def RC.drop {m : Mn E} : ∀ {l : List (SV E)} {n : Nat} {r : List (SV E)} {cs : List Value}, a0u n l = some r -> RC m l cs -> RC m r (cs.drop n)
 | l, 0, r, cs, h, hc => by simp only [a0u, A3] at h; subst h; exact hc
 | [], n + 1, r, cs, h, hc => by simp [a0u] at h
 | a :: t, n + 1, r, cs, h, hc => by
  obtain ⟨c1, c2, rfl, h1, h2⟩ := hc; unfold a0u at h; cases hb : Nat.ble a.w (n + 1) with
  | false => rw [hb] at h; cases h
  | true =>
   rw [hb] at h; have hle := C2 hb; have := h2.drop h; rw [V8, h1.len, I8 (by rw [h1.len]; exact hle)]; exact this
def RC.take {m : Mn E} : ∀ {l : List (SV E)} {n : Nat} {r : List (SV E)} {cs : List Value}, a1y n l = some r -> RC m l cs -> RC m r (cs.take n)
 | l, 0, r, cs, h, hc => by simp only [a1y, A3] at h; subst h; rw [List.take_zero]; rfl
 | [], n + 1, r, cs, h, hc => by simp [a1y] at h
 | a :: t, n + 1, r, cs, h, hc => by
  obtain ⟨c1, c2, rfl, h1, h2⟩ := hc; unfold a1y at h; cases hb : Nat.ble a.w (n + 1) with
  | false => rw [hb] at h; cases h
  | true =>
   rw [hb] at h; have hle := C2 hb; simp only [B5] at h; split at h
   ·rename_i l' hl'; cases h; refine ⟨c1, c2.take (n + 1 - a.w), ?_, h1, h2.take hl'⟩; rw [List.take_append, h1.len, F9 (by rw [h1.len]; exact hle)]
   ·cases h
def c2u : ∀ {l : List (SV E)} {n : Nat} {r : List (SV E)}, a1y n l = some r -> wid r = n
 | l, 0, r, h => by simp only [a1y, A3] at h; subst h; rfl
 | [], n + 1, r, h => by simp [a1y] at h
 | a :: t, n + 1, r, h => by
  unfold a1y at h; cases hb : Nat.ble a.w (n + 1) with
  | false => rw [hb] at h; cases h
  | true =>
   rw [hb] at h; have hle := C2 hb; simp only [B5] at h; split at h
   ·rename_i l' hl'; cases h; have := c2u hl'; simp only [wid, this]; omega
   ·cases h
def seg (l : List (SV E)) (o n : Nat) : Option (List (SV E)) := match a0u o l with | some r => a1y n r | none => none
def RC.seg {m : Mn E} {l r : List (SV E)} {o n : Nat} {cs : List Value} (h : seg l o n = some r) (hc : RC m l cs) : RC m r ((cs.drop o).take n) /\ ((cs.drop o).take n).length = n := by
 unfold Vz.seg at h
 split at h
 ·rename_i t ht; have := (hc.drop ht).take h; exact ⟨this, by rw [this.len, c2u h]⟩
 ·cases h
def b3g : List (SV E) -> SV E
 | [.dig d] => .dig d
 | [.vec k n l] => .vec k n l
 | l => .agg l
def a7j {m : Mn E} {l : List (SV E)} {cs : List Value} (h : RC m l cs) : RV m (b3g l) (.agg cs.toArray) := by
 unfold b3g
 split
 ·obtain ⟨c1, c2, rfl, h1, h2⟩ := h; have h1 : c1 = _ := h1; have h2 : c2 = _ := h2; subst h1 h2; show _ = Value.agg _; rw [D6]
 ·obtain ⟨c1, c2, rfl, ⟨h1, h3⟩, h2⟩ := h; have h2 : c2 = _ := h2; subst h1 h2; exact ⟨by rw [D6], h3⟩
 ·exact ⟨cs, rfl, h⟩
def e0f {m : Mn E} {l : List (SV E)} {cs : List Value} (h : RC m l cs) : V1 m (b3g l) (.agg cs.toArray) := by
 have := a7j h
 revert this
 unfold b3g
 split <;> exact fun h => h
def cellsOf : SV E -> Option (List (SV E))
 | .agg l => some l
 | .tup _ => none
 | .fn _ _ => none
 | .mth _ _ => none
 | .undef => none
 | .nxt => none
 | x => some [x]
def a2f : SV E -> Bool
 | .agg _ => false
 | .tup _ => false
 | .fn _ _ => false
 | .mth _ _ => false
 | .undef => false
 | .nxt => false
 | .dig _ => false
 | .vec _ _ _ => false
 | _ => true
def d6 {m : Mn E} {x : SV E} {v : Value} (h : a2f x = true) (hv : RV m x v) : L m x v := by
 cases x <;> first | exact hv | (cases h; done)
def a0x {m : Mn E} {x : SV E} {v : Value} (h : a2f x = true) (hv : L m x v) : RV m x v := by
 cases x <;> first | exact hv | (cases h; done)
def a6i {m : Mn E} {x : SV E} {v : Value} (h : a2f x = true) (hv : L m x v) : C1 m x [v] := by
 cases x <;> first | exact ⟨v, rfl, hv⟩ | (cases h; done)
def a3m {m : Mn E} {x : SV E} {l : List (SV E)} {v : Value} (h : cellsOf x = some l) (hv : RV m x v) : ∃ cs, v.cells = cs.toArray /\ RC m l cs := by
 cases x with
 | agg k => simp only [cellsOf, A3] at h; subst h; obtain ⟨cs, rfl, hc⟩ := hv; exact ⟨cs, rfl, hc⟩
 | tup k => cases h
 | fn f k => cases h
 | mth f k => cases h
 | undef => cases h
 | nxt => cases h
 | dig d => simp only [cellsOf, A3] at h; subst h; have hv : v = _ := hv; subst hv; exact ⟨d.cells, rfl, d.cells, [], by simp, rfl, rfl⟩
 | vec k n z => simp only [cellsOf, A3] at h; subst h; obtain ⟨rfl, hv⟩ := hv; exact ⟨_, rfl, _, [], by simp, ⟨rfl, hv⟩, rfl⟩
 | _ =>
  all_goals
   simp only [cellsOf, A3] at h; subst h; have hl := d6 rfl hv; exact ⟨[v], b5a v hl.one, [v], [], rfl, a6i rfl hl, rfl⟩
def asI : SV E -> Option (IntKind × Int)
 | .i k n => some (k, n)
 | .u8 x => some (.u8, (x.toNat : Int))
 | _ => none
def a2u {m : Mn E} {x : SV E} {v : Value} {k : IntKind} {n : Int} (h : asI x = some (k, n)) (hv : RV m x v) : v = .int k n := by
 cases x <;> simp only [asI] at h <;> first | (cases h; done) | (injection h with h; injection h with h1 h2; subst h1 h2; exact hv)
def asB (bs : List Bool) : SV E -> Option Bool
 | .b x => some x
 | .lit x => some x
 | .bv id => bs[id]?
 | _ => none
def a5o {m : Mn E} {x : SV E} {v : Value} {b : Bool} (h : asB m.bs x = some b) (hv : RV m x v) : v = .bool b := by
 cases x <;> simp only [asB] at h <;> try (cases h; done)
 ·injection h with h; subst h; exact hv
 ·injection h with h; subst h; exact hv
 ·have hv : _ /\ v = _ := hv; rw [hv.2]; unfold Mn.b; rw [h]; rfl
def mkI (k : IntKind) (z : Int) : SV E := match k with | .u8 => .u8 (UInt8.ofNat z.toNat) | k => .i k z
def f4s {m : Mn E} {k : IntKind} {z : Int} (h : k = .u8 -> 0 <= z /\ z < 256) : RV m (mkI k z : SV E) (.int k z) := by
 unfold mkI
 split
 ·obtain ⟨h1, h2⟩ := h rfl; show Value.int .u8 z = .int .u8 (((UInt8.ofNat z.toNat).toNat : Nat) : Int); have : (UInt8.ofNat z.toNat).toNat = z.toNat := by simp; omega
  rw [this]; congr 1; omega
 ·rfl
def e0g (z : Int) : 0 <= IntKind.u8.wrap z /\ IntKind.u8.wrap z < 256 := by rw [IntKind.wrap_u8]; omega
def a4l {m : Mn E} {k : IntKind} {z : Int} : RV m (mkI k (k.wrap z) : SV E) (.int k (k.wrap z)) := f4s fun h => by subst h; exact e0g z
def t7 : SV E -> Option Int
 | .i .i64 n => some n
 | _ => none
def gU8 : SV E -> Option UInt8
 | .u8 n => some n
 | _ => none
def c2b : SV E -> Option Dig
 | .dig n => some n
 | _ => none
def gSl (t : Ty) : SV E -> Option (List (t.den E))
 | .nils => some []
 | .sl t' xs => Ty.to (fun t => List (t.den E)) t' t xs
 | _ => none
def Sl.to {m : Mn E} {t t' : Ty} {xs : List (t'.den E)} {a : List (t.den E)} {v : Value} (h : Ty.to (fun t => List (t.den E)) t' t xs = some a) (hv : @Sl _ (t'.rp E) m.G v xs) : @Sl _ (t.rp E) m.G v a := by
 obtain ⟨e, h⟩ := Ty.to_ok h
 subst e; subst h; exact hv
def i9 {m : Mn E} {x : SV E} {a : Int} {c : List Value} (h : t7 x = some a) (hc : C1 m x c) : c = [.int .i64 a] := by
 unfold t7 at h; split at h
 ·cases h; obtain ⟨v, rfl, h1⟩ := hc; have h1 : v = _ := h1; rw [h1]
 ·cases h
def f4t {m : Mn E} {x : SV E} {a : UInt8} {c : List Value} (h : gU8 x = some a) (hc : C1 m x c) : c = [.int .u8 (a.toNat : Int)] := by
 unfold gU8 at h; split at h
 ·cases h; obtain ⟨v, rfl, h1⟩ := hc; have h1 : v = _ := h1; rw [h1]
 ·cases h
def a6j {m : Mn E} {x : SV E} {a : Dig} {c : List Value} (h : c2b x = some a) (hc : C1 m x c) : c = a.cells := by
 unfold c2b at h; split at h
 ·cases h; exact hc
 ·cases h
def o7 {m : Mn E} {t : Ty} {x : SV E} {a : List (t.den E)} {c : List Value} (h : gSl t x = some a) (hc : C1 m x c) : ∃ v, c = [v] /\ Sl m.G v a := by
 unfold gSl at h; split at h
 ·cases h; obtain ⟨v, rfl, h1⟩ := hc; have h1 : v = _ := h1; subst h1; exact ⟨_, rfl, Sl.nil_ _⟩
 ·rename_i t' xs; obtain ⟨v, rfl, h1⟩ := hc; exact ⟨v, rfl, Sl.to h h1⟩
 ·cases h
def e0h {m : Mn E} {x : SV E} {a : Bool} {c : List Value} (h : asB m.bs x = some a) (hc : C1 m x c) : c = [.bool a] := by
 cases x <;> simp only [asB] at h <;> try (cases h; done)
 ·cases h; obtain ⟨v, rfl, h1⟩ := hc; have h1 : v = _ := h1; rw [h1]
 ·cases h; obtain ⟨v, rfl, h1⟩ := hc; have h1 : v = _ := h1; rw [h1]
 ·obtain ⟨v, rfl, h1⟩ := hc; obtain ⟨_, h1⟩ : _ /\ v = _ := h1; rw [h1]; unfold Mn.b; rw [h]; rfl
inductive Res (E : DE) where
  | val (x : SV E)
  | cmp (b : Bool)
  | need (c : Bool) (x : SV E)
  | know (c : Bool) (x : SV E)
def Res.ok (P : Program) (m : Mn E) (N : Nat) (e : Env) (W : World -> Prop) (op : Op) : Res E -> Prop
 | .val x => ∃ v, RV m x v /\ ∀ w, W w -> ∀ d ty pos af gd, j9 P N e w ⟨d, op, ty, pos, af, gd⟩ v
 | .cmp b => ∀ w, W w -> ∀ d ty pos af gd, j9 P N e w ⟨d, op, ty, pos, af, gd⟩ (.bool b)
 | .need c x => c = true -> ∃ v, RV m x v /\ ∀ w, W w -> ∀ d ty pos af gd, j9 P N e w ⟨d, op, ty, pos, af, gd⟩ v
 | .know c x => c = true /\ ∃ v, RV m x v /\ ∀ w, W w -> ∀ d ty pos af gd, j9 P N e w ⟨d, op, ty, pos, af, gd⟩ v
def a3e (op : BinOp) (k : IntKind) (a b : Int) : Int :=
 let x := BitVec.ofInt k.bits a
 let y := BitVec.ofInt k.bits b
 k.wrap ((match op with | .and => x &&& y | .or => x ||| y | .xor => x ^^^ y | _ => x &&& ~~~y).toNat : Int)
def b3h (k : IntKind) (a b : Int) : Int := k.wrap (a * 2 ^ (min b.toNat k.bits))
def a6d (k : IntKind) (a b : Int) : Int := a.fdiv (2 ^ (min b.toNat k.bits))
def e8b : IntKind -> Bool | .u8 => true | _ => false
def f4u (op : BinOp) (k k' : IntKind) (a b : Int) : Option (Res E) :=
 match op with
 | .shl => some (.need (decide (0 <= b)) (mkI k (b3h k a b)))
 | .shr => bif e8b k then none else some (.need (decide (0 <= b)) (.i k (a6d k a b)))
 | op => bif decide (k = k') then
   match op with
   | .lss => some (.cmp (decide (a < b)))
   | .leq => some (.cmp (decide (a <= b)))
   | .gtr => some (.cmp (decide (b < a)))
   | .geq => some (.cmp (decide (b <= a)))
   | .eql => some (.cmp (a == b))
   | .neq => some (.cmp (a != b))
   | .add => some (.val (mkI k (k.wrap (a + b))))
   | .sub => some (.val (mkI k (k.wrap (a - b))))
   | .mul => some (.val (mkI k (k.wrap (a * b))))
   | .quo => some (.need (b != 0) (mkI k (k.wrap (a.tdiv b))))
   | .rem => bif e8b k then none else some (.need (b != 0) (.i k (a.tmod b)))
   | .and => some (.val (mkI k (a3e .and k a b)))
   | .or => some (.val (mkI k (a3e .or k a b)))
   | .xor => some (.val (mkI k (a3e .xor k a b)))
   | .andNot => some (.val (mkI k (a3e .andNot k a b)))
   | _ => none
  else none
section
variable {P : Program} {m : Mn E} {N : Nat} {e : Env} {W : World -> Prop}
def e8c {op : BinOp} {t yt : TypeId} {x y : Operand} {k k' : IntKind} {a b : Int} {r : Res E} (hx : opv e x = some (.int k a)) (hy : opv e y = some (.int k' b)) (h : f4u op k k' a b = some r) :
  r.ok P m N e W (.binOp op t x y yt) := by
 unfold f4u at h
 split at h
 ·cases h; intro hc; have hc := A6 hc; exact ⟨_, a4l, fun w hw d ty pos af gd => a3y hx hy (by simp only [binOp, Op.shift]; rw [F7 (by omega)]; rfl)⟩
 ·cases hu : e8b k with
  | true => rw [hu] at h; cases h
  | false =>
   rw [hu] at h; simp only [B8, A3] at h; subst h; intro hc; have hc := A6 hc; exact ⟨_, rfl, fun w hw d ty pos af gd => a3y hx hy (by simp only [binOp, Op.shift]; rw [F7 (by omega)]; rfl)⟩
 ·cases hk : decide (k = k') with
  | false => rw [hk] at h; cases h
  | true =>
   rw [hk] at h; have hk := A6 hk; subst hk; simp only [B5] at h; split at h <;> try (cases h; done)
   ·cases h; exact fun w hw d ty pos af gd => g1h hx hy
   ·cases h; exact fun w hw d ty pos af gd => g1i hx hy
   ·cases h; exact fun w hw d ty pos af gd => g1j hx hy
   ·cases h; exact fun w hw d ty pos af gd => g1k hx hy
   ·cases h; exact fun w hw d ty pos af gd => g1l hx hy
   ·cases h; exact fun w hw d ty pos af gd => g1m hx hy
   ·cases h; exact ⟨_, a4l, fun w hw d ty pos af gd => g1n hx hy⟩
   ·cases h; exact ⟨_, a4l, fun w hw d ty pos af gd => g1o hx hy⟩
   ·cases h; exact ⟨_, a4l, fun w hw d ty pos af gd => g1p hx hy⟩
   ·cases h; intro hc; have hc : b ≠ 0 := by simpa using hc
    exact ⟨_, a4l, fun w hw d ty pos af gd => a3y hx hy (by simp [binOp, Op.intDiv, hc])⟩
   ·cases hu : e8b k with
    | true => rw [hu] at h; cases h
    | false =>
     rw [hu] at h; simp only [B8, A3] at h; subst h; intro hc; have hc : b ≠ 0 := by simpa using hc
     exact ⟨_, rfl, fun w hw d ty pos af gd => g1w hx hy hc⟩
   ·cases h; exact ⟨_, a4l, fun w hw d ty pos af gd => a3y hx hy (by simp [binOp, Op.intBits, a3e])⟩
   ·cases h; exact ⟨_, a4l, fun w hw d ty pos af gd => a3y hx hy (by simp [binOp, Op.intBits, a3e])⟩
   ·cases h; exact ⟨_, a4l, fun w hw d ty pos af gd => a3y hx hy (by simp [binOp, Op.intBits, a3e])⟩
   ·cases h; exact ⟨_, a4l, fun w hw d ty pos af gd => a3y hx hy (by simp [binOp, Op.intBits, a3e])⟩
end
structure DF (E : DE) where
  flds : (n : Nat) -> E.T n -> List (SV E)
  opens : ∀ (n : Nat) (x : E.T n) (m : Mn E) (cs : List Value), (E.rp n).Is m.G cs x -> RC m (flds n x) cs
  shut : (n : Nat) -> List Bool -> List (SV E) -> Option (E.T n)
  shuts : ∀ (n : Nat) (x : E.T n) (m : Mn E) (l : List (SV E)) (cs : List Value), shut n m.bs l = some x -> RC m l cs -> (E.rp n).Is m.G cs x
variable (F : DF E)
def opn : (t : Ty) -> t.den E -> List (SV E)
 | .int, x => [.i .i64 x]
 | .bool, x => [.b x]
 | .u8, x => [.u8 x]
 | .dig, x => [.dig x]
 | .str, x => [.str x]
 | .ik k, x => [.i k x]
 | .st n, x => F.flds n x
 | .sl t, x => [.sl t x]
def RC.single {m : Mn E} {x : SV E} {v : Value} (h : a2f x = true) (hv : L m x v) : RC m [x] [v] := ⟨[v], [], rfl, a6i h hv, rfl⟩
def b8y {m : Mn E} : ∀ (t : Ty) (x : t.den E) (cs : List Value), Rp.Is m.G cs x -> RC m (opn F t x) cs
 | .int, x, cs, h => by have h : cs = _ := h; subst h; exact RC.single rfl rfl
 | .bool, x, cs, h => by have h : cs = _ := h; subst h; exact RC.single rfl rfl
 | .u8, x, cs, h => by have h : cs = _ := h; subst h; exact RC.single rfl rfl
 | .dig, x, cs, h => ⟨cs, [], (D6 _).symm, h, rfl⟩
 | .str, x, cs, h => by have h : cs = _ := h; subst h; exact RC.single rfl rfl
 | .ik k, x, cs, h => by have h : cs = _ := h; subst h; exact RC.single rfl rfl
 | .st n, x, cs, h => F.opens n x m cs h
 | .sl t, x, cs, h => by obtain ⟨v, rfl, h⟩ := h; exact RC.single rfl h
def a8r (bs : List Bool) : (t : Ty) -> List (SV E) -> Option (t.den E)
 | .int, l => match l with | [.i .i64 x] => some x | _ => none
 | .bool, l => match l with | [x] => asB bs x | _ => none
 | .u8, l => match l with | [.u8 x] => some x | _ => none
 | .dig, l => match l with | [.dig x] => some x | _ => none
 | .str, l => match l with | [.str x] => some x | _ => none
 | .ik k, l => match l with | [.i k' x] => bif decide (k' = k) then some x else none | _ => none
 | .st n, l => F.shut n bs l
 | .sl t, l => match l with | [x] => gSl t x | _ => none
def RC.one_ {m : Mn E} {x : SV E} {cs : List Value} (h : RC m [x] cs) : C1 m x cs := by
 obtain ⟨c1, c2, rfl, h1, h2⟩ := h
 have h2 : c2 = _ := h2
 subst h2; rw [D6]; exact h1
def C1.leaf_ {m : Mn E} {x : SV E} {cs : List Value} (hl : a2f x = true) (h : C1 m x cs) : ∃ v, cs = [v] /\ L m x v := by
 cases x <;> first | exact h | (cases hl; done)
def a4b {bs : List Bool} {x : SV E} {b : Bool} (h : asB bs x = some b) : a2f x = true := by
 cases x <;> first | rfl | (simp [asB] at h; done)
def b3i {m : Mn E} : ∀ (t : Ty) (l : List (SV E)) (x : t.den E) (cs : List Value), a8r F m.bs t l = some x -> RC m l cs -> Rp.Is m.G cs x := by
 intro t l x cs h hc
 cases t with
 | int =>
  simp only [a8r] at h; split at h
  ·cases h; obtain ⟨v, rfl, h1⟩ := hc.one_.leaf_ rfl; have h1 : v = _ := h1; subst h1; rfl
  ·cases h
 | bool =>
  simp only [a8r] at h; split at h
  ·obtain ⟨v, rfl, h1⟩ := hc.one_.leaf_ (a4b h); have := a5o h (a0x (a4b h) h1); subst this; rfl
  ·cases h
 | u8 =>
  simp only [a8r] at h; split at h
  ·cases h; obtain ⟨v, rfl, h1⟩ := hc.one_.leaf_ rfl; have h1 : v = _ := h1; subst h1; rfl
  ·cases h
 | dig =>
  simp only [a8r] at h; split at h
  ·cases h; exact hc.one_
  ·cases h
 | st n => exact F.shuts n x m l cs h hc
 | str =>
  simp only [a8r] at h; split at h
  ·cases h; obtain ⟨v, rfl, h1⟩ := hc.one_.leaf_ rfl; have h1 : v = _ := h1; subst h1; rfl
  ·cases h
 | ik k =>
  simp only [a8r] at h; split at h
  ·rename_i k' x; cases hk : decide (k' = k) with
   | false => rw [hk] at h; cases h
   | true =>
    rw [hk] at h; have hk := A6 hk; subst hk; simp only [B5, A3] at h; subst h; obtain ⟨v, rfl, h1⟩ := hc.one_.leaf_ rfl; have h1 : v = _ := h1; subst h1; rfl
  ·cases h
 | sl t =>
  simp only [a8r] at h; split at h
  ·exact o7 h hc.one_
  ·cases h
def c2c : (t : Ty) -> t.den E -> SV E
 | .st n, x => b3g (F.flds n x)
 | .dig, d => .dig d
 | .int, x => .i .i64 x
 | .bool, x => .b x
 | .u8, x => .u8 x
 | .str, x => .str x
 | .ik k, x => .i k x
 | .sl t, xs => .sl t xs
def c5a {m : Mn E} {t : Ty} {x : t.den E} {v : Value} (h : IsV m.G t x v) : RV m (c2c F t x) v := by
 cases t with
 | st n => obtain ⟨cs, rfl, h⟩ := h; exact a7j (F.opens n x m cs h)
 | _ => exact h
def a6k (bs : List Bool) : (t : Ty) -> SV E -> Option (t.den E)
 | .st n, x => match x with | .agg l => F.shut n bs l | .vec k q l => F.shut n bs [.vec k q l] | _ => none
 | .dig, x => match x with | .dig d => some d | _ => none
 | .int, x => match x with | .i .i64 n => some n | _ => none
 | .bool, x => asB bs x
 | .u8, x => match x with | .u8 n => some n | _ => none
 | .str, x => match x with | .str n => some n | _ => none
 | .ik k, x => match x with | .i k' n => bif decide (k' = k) then some n else none | _ => none
 | .sl t, x => gSl t x
def f2h {m : Mn E} {t : Ty} {x : SV E} {a : List (t.den E)} {v : Value} (h : gSl t x = some a) (hv : RV m x v) : Sl m.G v a := by
 unfold gSl at h; split at h
 ·cases h; have hv : v = _ := d6 rfl hv; subst hv; exact Sl.nil_ _
 ·rename_i t' xs; exact Sl.to h (d6 rfl hv)
 ·cases h
def a5p {m : Mn E} {t : Ty} {x : SV E} {a : t.den E} {v : Value} (h : a6k F m.bs t x = some a) (hv : RV m x v) : IsV m.G t a v := by
 cases t with
 | st n =>
  simp only [a6k] at h; split at h
  ·obtain ⟨cs, rfl, hc⟩ := hv; exact ⟨cs, rfl, F.shuts n a m _ cs h hc⟩
  ·obtain ⟨rfl, hv⟩ := hv; exact ⟨_, rfl, F.shuts n a m _ _ h ⟨_, [], by simp, ⟨rfl, hv⟩, rfl⟩⟩
  ·cases h
 | dig =>
  simp only [a6k] at h; split at h
  ·cases h; exact hv
  ·cases h
 | int =>
  simp only [a6k] at h; split at h
  ·cases h; exact hv
  ·cases h
 | bool => exact a5o h hv
 | u8 =>
  simp only [a6k] at h; split at h
  ·cases h; exact hv
  ·cases h
 | str =>
  simp only [a6k] at h; split at h
  ·cases h; exact hv
  ·cases h
 | ik k =>
  simp only [a6k] at h; split at h
  ·rename_i k' x; cases hk : decide (k' = k) with
   | false => rw [hk] at h; cases h
   | true =>
    rw [hk] at h; have hk := A6 hk; subst hk; simp only [B5, A3] at h; subst h; exact hv
  ·cases h
 | sl t => exact f2h h hv
variable {E : DE} (P : Program)
def b8z (t : Nat) : Bool := match P.underlying t with | some .bool => true | _ => false
def d1l (t : Nat) (k : IntKind) : Bool := match P.underlying t with | some (.int k') => decide (k' = k) | _ => false
def eq1 (bs : List Bool) (t : Nat) (x y : SV E) : Option Bool := match asI x, asI y with
 | some (k, n), some (k', n') => bif d1l P t k' && (a0h P t && decide (k = k')) then some (n == n') else none
 | _, _ => match asB bs x, asB bs y with
  | some p, some q => bif b8z P t && a0h P t then some (p == q) else none
  | _, _ => match x, y with
   | .dig a, .dig b => bif q0 P t && a5k P t 32 then some (decide (a = b)) else none
   | _, _ => none
def eqF (bs : List Bool) : List (Nat × Nat) -> List (SV E) -> List (SV E) -> Nat -> Option Bool
 | [], [], [], _ => some true
 | (t, off) :: L, x :: l, y :: k, o => bif Nat.beq off o then match eq1 P bs t x y, eqF bs L l k (o + x.w) with
   | some r1, some r2 => some (r1 && r2)
   | _, _ => none
  else none
 | _, _, _, _ => none
def b0s (t : Nat) : List (Nat × Nat) := match P.underlying t with
 | some (.struct fs) => fs.toList.map fun f => (f.type, f.offset)
 | _ => []
def e0i (bs : List Bool) (t : Nat) (l k : List (SV E)) : Option Bool := bif a2e P t (b0s P t) && !P.eqGuardType P.depth t then eqF P bs (b0s P t) l k 0 else none
variable {P}
def a7k {x : SV E} {k : IntKind} {n : Int} (h : asI x = some (k, n)) : a2f x = true := by
 cases x <;> first | rfl | (simp [asI] at h; done)
def c5b {x : SV E} (h : a2f x = true) : x.w = 1 := by cases x <;> first | rfl | (cases h; done)
def c5c {m : Mn E} {xs ys : List Value} : ∀ {L : List (Nat × Nat)} {l k : List (SV E)} {o : Nat} {r : Bool}, eqF P m.bs L l k o = some r -> RC m l (xs.drop o) -> RC m k (ys.drop o) -> eqP P 9999 xs.toArray ys.toArray L r
 | [], [], [], _, r, h, _, _ => by simp only [eqF, A3] at h; exact h.symm
 | (t, off) :: L, x :: l, y :: k, o, r, h, hx, hy => by
  simp only [eqF] at h; cases hb : Nat.beq off o with
  | false => rw [hb] at h; cases h
  | true =>
   rw [hb] at h; simp only [B5] at h; have := A8 hb; subst this; split at h
   ·rename_i r1 r2 h1 h2; simp only [A3] at h; obtain ⟨c1, c2, e1, g1, g2⟩ := hx; obtain ⟨d1, d2, e2, k1, k2⟩ := hy; have l1 := g1.len; have l2 := k1.len; have dx : xs.drop (off + x.w) = c2 := by rw [<- K6, e1, <- l1]; simp
    have dy : ys.drop (off + y.w) = d2 := by rw [<- K6, e2, <- l2]; simp
    have one : ∀ {zs c1 c2 : List Value} {v : Value}, zs.drop off = c1 ++ c2 -> c1 = [v] -> zs.toArray[off]? = some v := fun {zs c1 c2 v} he hc => by
     subst hc; have := congrArg (·[0]?) he; simpa using this
    unfold eq1 at h1; split at h1
    ·rename_i k n k' n' i1 i2; cases hc : d1l P t k' && (a0h P t && decide (k = k')) with
     | false => rw [hc] at h1; cases h1
     | true =>
      rw [hc] at h1; simp only [B5, A3] at h1; simp only [A7, C6] at hc; obtain ⟨q1, q2, q3⟩ := hc; obtain ⟨v, rfl, j1⟩ := g1.leaf_ (a7k i1); obtain ⟨u, rfl, j2⟩ := k1.leaf_ (a7k i2); have := a2u i1 (a0x (a7k i1) j1); subst this; have := a2u i2 (a0x (a7k i2) j2); subst this; unfold d1l at q1; split at q1
      ·rename_i kk hu; have := A6 q1; subst this; refine ⟨_, _, r1, r2, o8 q2 (one e1 rfl), o8 q2 (one e2 rfl), fun w => ?_, c5c h2 (by rw [dx]; exact g2) (by rw [c5b (a7k i1), <- c5b (a7k i2), dy]; exact k2), h.symm⟩; rw [<- h1, <- q3]; exact run_equalIn_int w 9998 t k kk n n' hu
      ·cases q1
    ·split at h1
     ·rename_i p q i1 i2; cases hc : b8z P t && a0h P t with
      | false => rw [hc] at h1; cases h1
      | true =>
       rw [hc] at h1; simp only [B5, A3] at h1; simp only [A7] at hc; obtain ⟨q1, q2⟩ := hc; obtain ⟨v, rfl, j1⟩ := g1.leaf_ (a4b i1); obtain ⟨u, rfl, j2⟩ := k1.leaf_ (a4b i2); have := a5o i1 (a0x (a4b i1) j1); subst this; have := a5o i2 (a0x (a4b i2) j2); subst this; unfold b8z at q1; split at q1
       ·rename_i hu; refine ⟨_, _, r1, r2, o8 q2 (one e1 rfl), o8 q2 (one e2 rfl), fun w => ?_, c5c h2 (by rw [dx]; exact g2) (by rw [c5b (a4b i1), <- c5b (a4b i2), dy]; exact k2), h.symm⟩; rw [<- h1]; exact run_equalIn_bool' w 9998 t _ _ hu
       ·cases q1
     ·split at h1
      ·rename_i a b _ _; cases hc : q0 P t && a5k P t 32 with
       | false => rw [hc] at h1; cases h1
       | true =>
        rw [hc] at h1; simp only [B5, A3] at h1; simp only [A7] at hc; obtain ⟨q1, q2⟩ := hc; have g1 : c1 = a.cells := g1; have k1 : d1 = b.cells := k1; have ex : ∀ {zs c1 c2 : List Value} {a : Dig}, zs.drop off = c1 ++ c2 -> c1 = a.cells -> zs.toArray.extract off (off + 32) = a.cells.toArray := fun {zs c1 c2 a} he hc => by
         subst hc; rw [List.extract_toArray]
         congr 1
         simp only [U6, I2]; rw [he, N7 (by simp), F9 (by simp)]
        refine ⟨_, _, r1, r2, a3d q2, a3d q2, fun w => ?_, c5c h2 (by rw [dx]; exact g2) (by rw [show SV.w (.dig a : SV E) = SV.w (.dig b : SV E) from rfl, dy]; exact k2), h.symm⟩; rw [ex e1 g1, ex e2 k1, <- h1]; exact a2p q1 a b w
      ·cases h1
   ·cases h
 | [], _ :: _, _, _, _, h, _, _ => by simp [eqF] at h
 | [], [], _ :: _, _, _, h, _, _ => by simp [eqF] at h
 | _ :: _, [], _, _, _, h, _, _ => by simp [eqF] at h
 | _ :: _, _ :: _, [], _, _, h, _, _ => by simp [eqF] at h
def c5d {m : Mn E} {t : Nat} {l k : List (SV E)} {r : Bool} {xs ys : List Value} (h : e0i P m.bs t l k = some r) (hx : RC m l xs) (hy : RC m k ys) : (∀ w, (Op.equalIn 10000 t (.agg xs.toArray) (.agg ys.toArray)).run P w = .ok r w) /\ P.eqGuardType P.depth t = false := by
 unfold e0i at h
 cases hc : a2e P t (b0s P t) && !P.eqGuardType P.depth t with
 | false => rw [hc] at h; cases h
 | true =>
  rw [hc] at h; simp only [B5] at h; simp only [A7, K4] at hc; exact ⟨fun w => b2f (d := 9999) hc.1 (c5c h (by simpa using hx) (by simpa using hy)) w, hc.2⟩
end Go.Vz
namespace Go.Vz
open Go Go.Gx
variable {E : DE}
def splice (c : List (SV E)) (o n : Nat) (x : List (SV E)) : Option (List (SV E)) := bif Nat.beq (wid x) n then match a1y o c, a0u (o + n) c with
  | some a, some b => some (a ++ x ++ b)
  | _, _ => none
 else none
def RC.append {m : Mn E} : ∀ {a b : List (SV E)} {ca cb : List Value}, RC m a ca -> RC m b cb -> RC m (a ++ b) (ca ++ cb)
 | [], b, ca, cb, h, hb => by rw [show ca = _ from h]; exact hb
 | x :: a, b, ca, cb, ⟨c1, c2, e, h1, h2⟩, hb => ⟨c1, c2 ++ cb, by rw [e, B6], h1, h2.append hb⟩
def e0j : ∀ {l : List (SV E)} {n : Nat} {r : List (SV E)}, a1y n l = some r -> n <= wid l
 | _, 0, _, _ => C0 _
 | [], n + 1, r, h => by simp [a1y] at h
 | a :: t, n + 1, r, h => by
  unfold a1y at h; cases hb : Nat.ble a.w (n + 1) with
  | false => rw [hb] at h; cases h
  | true =>
   rw [hb] at h; have hle := C2 hb; simp only [B5] at h; split at h
   ·rename_i hl'; have := e0j hl'; simp only [wid]; omega
   ·cases h
def b3j : ∀ {l : List (SV E)} {n : Nat} {r : List (SV E)}, a0u n l = some r -> n <= wid l
 | _, 0, _, _ => C0 _
 | [], n + 1, r, h => by simp [a0u] at h
 | a :: t, n + 1, r, h => by
  unfold a0u at h; cases hb : Nat.ble a.w (n + 1) with
  | false => rw [hb] at h; cases h
  | true =>
   rw [hb] at h; have hle := C2 hb; have := b3j (show a0u (n + 1 - a.w) t = some r from h); simp only [wid]; omega
def RC.splice {m : Mn E} {c x r : List (SV E)} {o n : Nat} {cs xs : List Value} (h : Vz.splice c o n x = some r) (hc : RC m c cs) (hx : RC m x xs) : RC m r (cs.take o ++ xs ++ cs.drop (o + n)) /\ xs.length = n /\ o + n <= cs.length := by
 unfold Vz.splice at h
 cases hb : Nat.beq (wid x) n with
 | false => rw [hb] at h; cases h
 | true =>
  rw [hb] at h; simp only [B5] at h; split at h
  ·rename_i a b ha hb'; cases h; refine ⟨((hc.take ha).append hx).append (hc.drop hb'), by rw [hx.len]; exact A8 hb, by rw [hc.len]; exact b3j hb'⟩
  ·cases h
inductive XK where
  | add64
  | addT (k : IntKind)
  | cmp
def XOk (P : Program) (f : Nat) : XK -> Prop
 | .add64 => ∀ (x y c : Int) (w : World), 0 <= x -> 0 <= y -> 0 <= c -> c <= 1 -> (callFunc f #[.int .u64 x, .int .u64 y, .int .u64 c]).run P w = .ok (.value (.tuple #[.int .u64 ((x + y + c) % 18446744073709551616), .int .u64 ((x + y + c) / 18446744073709551616)])) w
 | .addT k => ∀ (a : Addr) (x y : Int) (w : World), w.cell? a = some (.int k x) -> w.frozen? a = false -> (callFunc f #[.pointer (some a), .int k y]).run P w = .ok (.value (.int k (k.wrap (x + y)))) (w.setCell a (.int k (k.wrap (x + y))))
 | .cmp => ∀ (v1 v2 : Value) (a b : List UInt8) (w : World), (Extern.Bytes.bytesOf v1).run P w = .ok ⟨a.toArray⟩ w -> (Extern.Bytes.bytesOf v2).run P w = .ok ⟨b.toArray⟩ w -> (callFunc f #[v1, v2]).run P w = .ok (.value (.int .i64 (b1l a b))) w
def g2b (P : Program) (pc : Nat -> List (SV E) -> St E -> Option (SV E)) : Prop := ∀ (f : Nat) (l : List (SV E)) (s : St E) (x : SV E), pc f l s = some x ->
 ∀ (w0 : World) (G0 : Gh) (m : Mn E) (w : World) (vs : List Value), RelH w0 G0 s m w -> l.length = vs.length -> (∀ (i : Nat) (y : SV E), l[i]? = some y -> ∃ v, vs[i]? = some v /\ RV m y v) ->
  Calls P f vs.toArray w fun e w' => ∃ v, e = .returned v /\ ∃ m', Up m m' /\ RelH w0 G0 s m' w' /\ RV m' x v
structure ZF (P : Program) (E : DE) where
  t : Nat -> Option Ty := fun _ => none
  z : Nat -> Option (List (SV E))
  ok : ∀ t l, z t = some l -> ∃ cs, (P.info? t).bind (fun i => i.zero.map Value.cells) = some cs.toArray /\ ∀ m : Mn E, RC m l cs
  zs : Nat -> Option (SV E) := fun _ => none
  zok : ∀ t x, zs t = some x -> ∃ v, (P.info? t).bind (fun i => i.zero) = some v /\ ∀ m : Mn E, RV m x v
  ky : Nat -> Option Ty := fun _ => none
  kok : ∀ t k, ky t = some k -> a9j P t (k.enc E) /\ ∀ (G : Gh) (x : k.den E) (v : Value), IsV G k x v ↔ v = k.enc E x
  ex : Nat -> Option XK := fun _ => none
  exok : ∀ f k, ex f = some k -> XOk P f k := by intro _ _ h; cases h
  pc : Nat -> List (SV E) -> St E -> Option (SV E) := fun _ _ _ => none
  pcok : g2b P pc := by intro _ _ _ _ h; cases h
  mg : Bool := false
  sk : Bool := false
def ZF.kyB {P : Program} (Z : ZF P E) (kt : Nat) (k : Ty) : Bool := match Z.ky kt with | some k' => decide (k' = k) | none => false
def ZF.kyB_ok {P : Program} {Z : ZF P E} {kt : Nat} {k : Ty} (h : Z.kyB kt k = true) : a9j P kt (k.enc E) /\ ∀ (G : Gh) (x : k.den E) (v : Value), IsV G k x v ↔ v = k.enc E x := by
 unfold ZF.kyB at h
 split at h
 ·rename_i k' hk; have := A6 h; subst this; exact Z.kok _ _ hk
 ·cases h
def b9a (pl : List (Nat × Nat)) : List (SV E) -> List Nat -> List (SV E) -> Option (List (SV E))
 | c, [], [] => some c
 | c, i :: is, x :: xs => match pl[i]?, cellsOf x with
  | some (off, sz), some r => match splice c off sz r with | some c' => b9a pl c' is xs | none => none
  | _, _ => none
 | _, _, _ => none
def c5e (P : Program) (t : Nat) : List (Nat × Nat) := match P.underlying t with
 | some (.struct fs) => fs.toList.map fun f => (f.offset, match P.info? f.type with | some i => i.size | none => 0)
 | _ => []
def c8e {m : Mn E} {pl : List (Nat × Nat)} : ∀ {is : List Nat} {xs c c' : List (SV E)} {vs cs : List Value}, b9a pl c is xs = some c' -> RC m c cs -> vs.length = xs.length -> (∀ (i : Nat) (x : SV E), xs[i]? = some x -> ∃ v, vs[i]? = some v /\ RV m x v) ->
  ∃ cs', a2s pl cs ((is.zip vs).map fun p => (p.1, p.2.cells.toList)) = some cs' /\ RC m c' cs'
 | [], [], c, c', vs, cs, h, hc, hl, _ => by
  simp only [b9a, A3] at h; subst h; exact ⟨cs, rfl, hc⟩
 | i :: is, x :: xs, c, c', [], cs, h, hc, hl, hv => by simp at hl
 | i :: is, x :: xs, c, c', v :: vs, cs, h, hc, hl, hv => by
  simp only [b9a] at h; split at h
  ·rename_i off sz r hp hr; split at h
   ·rename_i c1 h1; obtain ⟨u, e1, e2⟩ := hv 0 x rfl; simp only [E0, A3] at e1; subst e1; obtain ⟨rs, h3, h4⟩ := a3m hr e2; obtain ⟨k1, k2, k3⟩ := hc.splice h1 h4; obtain ⟨cs', g1, g2⟩ := c8e (vs := vs) h k1 (by simpa using hl) fun j y hj => by simpa using hv (j + 1) y (by simpa using hj)
    refine ⟨cs', ?_, g2⟩; simp only [S5, C9, a2s, hp, h3]; rw [F8 ⟨k2, k3⟩]; exact g1
   ·cases h
  ·cases h
 | [], _ :: _, _, _, _, _, h, _, _, _ => by simp [b9a] at h
 | _ :: _, [], _, _, _, _, h, _, _, _ => by simp [b9a] at h
def a5q (d : Dig) (i : Nat) (x : UInt8) : Dig := ⟨d.l.set i x, by simp [d.h]⟩
def d1m : Dig -> List Nat -> List (SV E) -> Option Dig
 | d, [], [] => some d
 | d, i :: is, x :: xs => match x with
  | .u8 x => bif Nat.blt i 32 then d1m (a5q d i x) is xs else none
  | _ => none
 | _, _, _ => none
def f2i (P : Program) (t : Nat) : Option Nat := match P.underlying t with | some (.array _ e) => some e | _ => none
def d4a {m : Mn E} : ∀ {is : List Nat} {xs : List (SV E)} {d d' : Dig} {vs : List Value}, d1m d is xs = some d' -> vs.length = xs.length -> (∀ (i : Nat) (x : SV E), xs[i]? = some x -> ∃ v, vs[i]? = some v /\ RV m x v) ->
  a5m 1 d.cells ((is.zip vs).map fun p => (p.1, p.2.cells.toList)) = some d'.cells
 | [], [], d, d', vs, h, _, _ => by simp only [d1m, A3] at h; subst h; rfl
 | i :: is, x :: xs, d, d', [], h, hl, _ => by simp at hl
 | i :: is, x :: xs, d, d', v :: vs, h, hl, hv => by
  simp only [d1m] at h; split at h
  ·rename_i x; cases hb : Nat.blt i 32 with
   | false => rw [hb] at h; cases h
   | true =>
    rw [hb] at h; simp only [B5] at h; have hlt : i < 32 := C2 hb; obtain ⟨u, e1, e2⟩ := hv 0 _ rfl; simp only [E0, A3] at e1; subst e1; have e2 : v = _ := e2; subst e2; have ih := d4a (vs := vs) h (by simpa using hl) fun j y hj => by simpa using hv (j + 1) y (by simpa using hj)
    simp only [S5, C9, a5m]; rw [F8 ⟨rfl, by rw [Dig.length_cells]; omega⟩]
    have : d.cells.take (i * 1) ++ (Value.int .u8 (x.toNat : Int)).cells.toList ++ d.cells.drop (i * 1 + 1) = (a5q d i x).cells := by
     unfold Dig.cells a5q; rw [R2]; show List.take i (d.l.map _) ++ [_] ++ _ = (d.l.set i x).map _; rw [P7, M8, F8 (by rw [C5, d.h]; exact hlt)]; simp
    rw [this]; exact ih
  ·cases h
 | [], _ :: _, _, _, _, h, _, _ => by simp [d1m] at h
 | _ :: _, [], _, _, _, h, _, _ => by simp [d1m] at h
end Go.Vz
namespace Go.Vz
open Go Go.Gx
variable {E : DE}
def d4b {α : Type} {A B C X : List α} {lo : Nat} (h : lo + X.length <= B.length) : (A ++ (B ++ C)).take (A.length + lo) ++ X ++ (A ++ (B ++ C)).drop (A.length + lo + X.length) = A ++ ((B.take lo ++ X ++ B.drop (lo + X.length)) ++ C) := by
 have e1 : (A ++ (B ++ C)).take (A.length + lo) = A ++ B.take lo := by
  rw [List.take_append, F9 (by omega), I2, N7 (by omega)]
 have e2 : (A ++ (B ++ C)).drop (A.length + lo + X.length) = B.drop (lo + X.length) ++ C := by
  rw [I6, V8, Bz (by omega), T8, I2, T6 h]
 rw [e1, e2]; simp
def a7l (l : List Int) (lo : Nat) (X : List Int) : List Int := l.take lo ++ X ++ l.drop (lo + X.length)
def e0k {l X : List Int} {lo : Nat} (h : lo + X.length <= l.length) : (a7l l lo X).length = l.length := by
 unfold a7l; simp only [B7, C4, H7]; omega
def e0l {l : List Int} {i : Nat} {v : Int} (h : i < l.length) : a7l l i [v] = l.set i v := by
 unfold a7l; rw [M8, F8 h]; simp
def RC.vput {m : Mn E} {a r c : List (SV E)} {k : IntKind} {q o lo : Nat} {l X : List Int} {cs : List Value} (h1 : a1y o c = some a) (h2 : a0u o c = some (.vec k q l :: r)) (hc : RC m c cs) (hl : lo + X.length <= q) :
  RC m (a ++ .vec k q (a7l l lo X) :: r) (cs.take (o + lo) ++ X.map (Value.int k) ++ cs.drop (o + lo + X.length)) /\ o + lo + X.length <= cs.length := by
 have hA := hc.take h1
 obtain ⟨c1, c2, e, ⟨rfl, hq⟩, h3⟩ := hc.drop h2
 have ho : o <= cs.length := by rw [hc.len]; exact b3j h2
 have hcs : cs = cs.take o ++ (l.map (Value.int k) ++ c2) := by rw [<- e, E6]
 have hlo : (cs.take o).length = o := by rw [C4]; omega
 have hle : o + lo + X.length <= cs.length := by
  rw [hcs, B7, hlo, B7, C5]; omega
 refine ⟨?_, hle⟩
 have := d4b (A := cs.take o) (B := l.map (Value.int k)) (C := c2) (X := X.map (Value.int k)) (lo := lo) (by simp only [C5]; omega)
 rw [<- hcs, hlo, C5] at this
 rw [this]
 refine hA.append ⟨_, c2, rfl, ⟨?_, ?_⟩, h3⟩
 ·unfold a7l; simp [Az, Bq]
 ·rw [e0k (by omega), hq]
def RC.dput {m : Mn E} {a r c : List (SV E)} {o i : Nat} {g : Dig} {x : UInt8} {cs : List Value} (h1 : a1y o c = some a) (h2 : a0u o c = some (.dig g :: r)) (hc : RC m c cs) (hl : i < 32) :
  RC m (a ++ .dig (a5q g i x) :: r) (cs.take (o + i) ++ [.int .u8 (x.toNat : Int)] ++ cs.drop (o + i + 1)) /\ o + i + 1 <= cs.length := by
 have hA := hc.take h1
 obtain ⟨c1, c2, e, h0, h3⟩ := hc.drop h2
 have h0 : c1 = g.cells := h0
 subst h0
 have ho : o <= cs.length := by rw [hc.len]; exact b3j h2
 have hcs : cs = cs.take o ++ (g.cells ++ c2) := by rw [<- e, E6]
 have hlo : (cs.take o).length = o := by rw [C4]; omega
 have hle : o + i + 1 <= cs.length := by
  rw [hcs, B7, hlo, B7, Dig.length_cells]; omega
 refine ⟨?_, hle⟩
 have := d4b (A := cs.take o) (B := g.cells) (C := c2) (X := [Value.int .u8 (x.toNat : Int)]) (lo := i) (by rw [Dig.length_cells]; simp; omega)
 rw [<- hcs, hlo] at this
 simp only [E9] at this
 rw [this]
 refine hA.append ⟨_, c2, rfl, ?_, h3⟩
 show _ = (a5q g i x).cells
 unfold Dig.cells a5q
 show List.take i (g.l.map _) ++ [_] ++ _ = (g.l.set i x).map _
 rw [P7, M8, F8 (by rw [C5, g.h]; exact hl)]
 simp
def RC.vget {m : Mn E} {r c : List (SV E)} {k : IntKind} {q o i : Nat} {l : List Int} {cs : List Value} (h2 : a0u o c = some (.vec k q l :: r)) (hc : RC m c cs) (hi : i < q) : cs[o + i]? = some (.int k (l.getD i 0)) := by
 obtain ⟨c1, c2, e, ⟨rfl, hq⟩, h3⟩ := hc.drop h2
 have : (cs.drop o)[i]? = some (.int k (l.getD i 0)) := by
  rw [e, F4 (by simp; omega), C7, B3, B2 (by omega)]; rfl
 rwa [I7] at this
def RC.dget {m : Mn E} {r c : List (SV E)} {o i : Nat} {g : Dig} {cs : List Value} (h2 : a0u o c = some (.dig g :: r)) (hc : RC m c cs) (hi : i < 32) : cs[o + i]? = some (.int .u8 ((g.l.getD i 0).toNat : Int)) := by
 obtain ⟨c1, c2, e, h0, h3⟩ := hc.drop h2
 have h0 : c1 = g.cells := h0
 subst h0
 have : (cs.drop o)[i]? = some (.int .u8 ((g.l.getD i 0).toNat : Int)) := by
  have hl : i < g.l.length := by rw [g.h]; exact hi
  rw [e, F4 (by rw [Dig.length_cells]; exact hi)]; unfold Dig.cells; rw [C7, B3, B2 hl]; rfl
 rwa [I7] at this
def d1n (k : IntKind) (n : Nat) : List Int -> List Nat -> List (SV E) -> Option (List Int)
 | l, [], [] => some l
 | l, i :: is, x :: xs => match asI x with
  | some (k', v) => bif Nat.blt i n && decide (k' = k) then d1n k n (l.set i v) is xs else none
  | none => none
 | _, _, _ => none
def d4c {m : Mn E} {k : IntKind} {n : Nat} : ∀ {is : List Nat} {xs : List (SV E)} {l l' : List Int} {vs : List Value}, d1n k n l is xs = some l' -> l.length = n -> vs.length = xs.length -> (∀ (i : Nat) (x : SV E), xs[i]? = some x -> ∃ v, vs[i]? = some v /\ RV m x v) ->
  a5m 1 (l.map (Value.int k)) ((is.zip vs).map fun p => (p.1, p.2.cells.toList)) = some (l'.map (Value.int k)) /\ l'.length = n
 | [], [], l, l', vs, h, hn, _, _ => by simp only [d1n, A3] at h; subst h; exact ⟨rfl, hn⟩
 | i :: is, x :: xs, l, l', [], h, _, hl, _ => by simp at hl
 | i :: is, x :: xs, l, l', v :: vs, h, hn, hl, hv => by
  simp only [d1n] at h; split at h
  ·rename_i k' z hz; cases hb : Nat.blt i n && decide (k' = k) with
   | false => rw [hb] at h; cases h
   | true =>
    rw [hb] at h; simp only [B5] at h; simp only [A7, C6] at hb; obtain ⟨hb, rfl⟩ := hb; have hlt : i < n := C2 hb; obtain ⟨u, e1, e2⟩ := hv 0 _ rfl; simp only [E0, A3] at e1; subst e1; have := a2u hz e2; subst this; obtain ⟨ih1, ih2⟩ := d4c (vs := vs) h (by rw [P1]; exact hn) (by simpa using hl) fun j y hj => by simpa using hv (j + 1) y (by simpa using hj)
    refine ⟨?_, ih2⟩; simp only [S5, C9, a5m]; rw [F8 ⟨rfl, by rw [C5]; omega⟩]
    have : (l.map (Value.int k')).take (i * 1) ++ (Value.int k' z).cells.toList ++ (l.map (Value.int k')).drop (i * 1 + 1) = (l.set i z).map (Value.int k') := by
     rw [R2, P7, M8, F8 (by rw [C5]; omega)]
     show List.take i _ ++ [_] ++ _ = _; simp
    rw [this]; exact ih1
  ·cases h
 | [], _ :: _, _, _, _, h, _, _, _ => by simp [d1n] at h
 | _ :: _, [], _, _, _, h, _, _, _ => by simp [d1n] at h
section
variable {P : Program} {N : Nat} {e : Env} {w : World} {d : Option Tmp} {ty : TypeId} {pos : String} {af : Array Edge} {gd : Option (Nat × Bool)}
def c8f {t n el sz : Nat} (h : a2y P t n el sz = true) : P.underlying t = some (.array n el) /\ ∃ inf, P.info? el = some inf /\ inf.size = sz := by
 unfold a2y at h
 rw [A7] at h
 obtain ⟨h1, h2⟩ := h
 revert h1
 split
 ·rename_i n' e' hu; intro h1; rw [A7] at h1; have e1 := A8 h1.1; have e2 := A8 h1.2; subst e1 e2; refine ⟨hu, ?_⟩; cases hq : P.info? el with
  | none => simp [hq] at h2
  | some inf => rw [hq] at h2; exact ⟨inf, rfl, A8 h2⟩
 ·intro h; cases h
def d1o {t n el : Nat} {x y : Operand} {l : List Int} {k k' : IntKind} {i : Nat} (ht : a2y P t n el 1 = true) (ho : a0h P el = true) (hx : opv e x = some (.agg (l.map (Value.int k)).toArray)) (hl : l.length = n) (hy : opv e y = some (.int k' (i : Int))) (hi : i < n) :
  j9 P N e w ⟨d, .index t x y, ty, pos, af, gd⟩ (.int k (l.getD i 0)) := fun a ha => by
 obtain ⟨hu, inf, hq, hz⟩ := c8f ht
 have hp := o8 (P := P) (t := el) (off := i) (cs := (l.map (Value.int k)).toArray) (v := .int k (l.getD i 0)) ho (by
  rw [N2, C7, B3, B2 (by omega)]; rfl) w
 have hi' : ¬ n <= i := by omega
 simp [execOp, ha.eval hx, ha.eval hy, Instr.index, asIntOf, run_underlying hu, sizeOf, typeInfo, hq, hz, hp]
 intro h; exact absurd h hi'
def c8g {t n el : Nat} {x : Operand} {lo hi : Option Operand} {b o l h : Nat} (ht : a2y P t n el 1 = true) (hx : opv e x = some (.pointer (some ⟨b, o, none⟩)))
  (hlo : (lo = none /\ l = 0) ∨ ∃ y k, lo = some y /\ opv e y = some (.int k (l : Int))) (hhi : (hi = none /\ h = n) ∨ ∃ y k, hi = some y /\ opv e y = some (.int k (h : Int))) (h1 : l <= h) (h2 : h <= n) (h3 : l < n) :
  j9 P N e w ⟨d, .slice t x lo hi none, ty, pos, af, gd⟩ (.slice (some ⟨b, o + l, none⟩) (h - l) (n - l)) := fun a ha => by
 obtain ⟨hu, inf, hq, hz⟩ := c8f ht
 have hn : ¬ n = l := by omega
 have hb : (0 : Int) <= (h : Int) /\ (h : Int) <= (n : Int) := by omega
 have hc : (l : Int) <= (h : Int) := by omega
 have hA : (⟨b, o, none⟩ : Addr).add l = ⟨b, o + l, none⟩ := by simp [Addr.add]
 have hA0 : (⟨b, o, none⟩ : Addr).add 0 = ⟨b, o, none⟩ := by simp [Addr.add]
 have hn0 : ¬ n = 0 := by omega
 rcases hlo with ⟨rfl, rfl⟩ | ⟨y, k, rfl, hy⟩
 ·rcases hhi with ⟨rfl, rfl⟩ | ⟨y', k', rfl, hy'⟩
  ·simp [execOp, ha.eval hx, Instr.sliceAt, run_underlying hu, Instr.sureAddr, Instr.sliceBounds, sizeOf, typeInfo, hq, hz, hA0, hn0]
  ·simp [execOp, ha.eval hx, ha.eval hy', Instr.sliceAt, run_underlying hu, Instr.sureAddr, Instr.sliceBounds, Instr.sliceBound, asIntOf, sizeOf, typeInfo, hq, hz, h2, hA0, hn0]
 ·rcases hhi with ⟨rfl, rfl⟩ | ⟨y', k', rfl, hy'⟩
  ·simp [execOp, ha.eval hx, ha.eval hy, Instr.sliceAt, run_underlying hu, Instr.sureAddr, Instr.sliceBounds, Instr.sliceBound, asIntOf, sizeOf, typeInfo, hq, hz, h1, hA, hn]
  ·simp [execOp, ha.eval hx, ha.eval hy, ha.eval hy', Instr.sliceAt, run_underlying hu, Instr.sureAddr, Instr.sliceBounds, Instr.sliceBound, asIntOf, sizeOf, typeInfo, hq, hz, h1, h2, hA, hn]
end
section
variable {P : Program} {ops : Array Oper} {Q : Exit -> Act -> World -> Prop} {N : Nat} {e : Env} {w w0 : World} {G0 G : Gh} {rest : List Oper} {d : Option Tmp} {ty : TypeId} {pos : String} {af : Array Edge} {M : Mu} {bl : List Bx}
def e0m {x : Operand} {t el n c g T o : Nat} {rt : TypeId} {z : Value} {cs cs' : List Value} (i : Nat) (he : P.underlying t = some (.slice el)) (hz : (P.info? el).bind (fun i => i.zero) = some z) (hzc : z.cells = #[z]) (h1 : z.oneCell' = true)
  (hC : Cx w0 G0 G w M) (hB : Bxs G w w0.heap.size bl M) (hi : bl[i]? = some (g, T, cs)) (hx : opv e x = some (.slice (some ⟨g, o, none⟩) n c)) (hfit : o + n <= cs.length) (hcs : cs.take o ++ List.replicate n z ++ cs.drop (o + n) = cs') (hd : okD N d = true)
  (h : ∀ w', Cx w0 G0 G w' M -> Bxs G w' w0.heap.size (bl.set i (g, T, cs')) M -> WL P ops Q N rest (e.putO d (.tuple #[])) w') :
  WL P ops Q N (⟨d, .call ⟨.builtin .clear, #[x], #[t]⟩, rt, pos, af, none⟩ :: rest) e w := by
 have hg := hB.get hi
 have hzv : ∀ w : World, (zeroValue el).run P w = .ok z w := fun w => by
  cases hq : P.info? el with
  | none => simp [hq] at hz
  | some inf =>
   cases hzz : inf.zero with
   | none => simp [hq, hzz] at hz
   | some zv => simp [hq, hzz] at hz; subst hz; simp [zeroValue, typeInfo, hq, hzz]
 cases n with
 | zero =>
  have hcs : cs' = cs := by rw [<- hcs]; simp
  subst hcs; refine x5 (R := fun v w' => v = .tuple #[] /\ w' = w) hd (fun a ha => ?_) ?_
  ·unfold OpR; have hr : (execOp a.eval ⟨d, .call ⟨.builtin .clear, #[x], #[t]⟩, rt, pos, af, none⟩).run P w = .ok (.value (.tuple #[])) w := by
    simp only [execOp, resolve, Sem.run_bind, Sem.run_pure, Result.andThen_ok, invoke, builtin, K8, C9, L0, ha.eval hx]; simp [Builtin.clear_, run_underlying he]
   rw [hr]; exact ⟨rfl, rfl⟩
  ·rintro v w' ⟨rfl, rfl⟩; refine h w' hC ?_; have : bl.set i (g, T, cs') = bl := by
    apply J1; intro j; rw [M9]; split
    ·rename_i hj; subst hj; rw [hi]; split <;> simp_all
    ·rfl
   rw [this]; exact hB
 | succ n =>
  have hfl : (Builtin.zeroCells z.cells (n + 1)).toList = List.replicate (n + 1) z := by
   rw [hzc]; simp [Builtin.zeroCells]; apply List.ext_getElem
   ·simp
   ·intro i h1 h2; simp [Nat.mod_one]
  refine x5 (R := fun v w' => v = .tuple #[] /\ w' = w.setRow g cs'.toArray) hd (fun a ha => ?_) ?_
  ·unfold OpR; have hst := run_storeCells_at (P := P) g o T (List.replicate (n + 1) z) 0 cs.toArray w hg.1 (by simpa using hfit) (by intro v hv; rw [V3 hv]; exact h1); simp only [N5, L9] at hst; have hst' : (storeCells ⟨g, o, none⟩ (List.replicate (n + 1) z)).run P w = .ok () (w.setRow g cs'.toArray) := by rw [<- hcs]; simpa using hst
   have hr : (execOp a.eval ⟨d, .call ⟨.builtin .clear, #[x], #[t]⟩, rt, pos, af, none⟩).run P w = .ok (.value (.tuple #[])) (w.setRow g cs'.toArray) := by
    simp only [execOp, resolve, Sem.run_bind, Sem.run_pure, Result.andThen_ok, invoke, builtin, K8, C9, L0, ha.eval hx]; simp [Builtin.clear_, run_underlying he, hzv, hfl, hst']
   rw [hr]; exact ⟨rfl, rfl⟩
  ·rintro v w' ⟨rfl, rfl⟩; exact h _ (hC.setRow' hg.2.1 hg.2.2 (hB.off hi) _) (hB.set hi cs')
end
structure AV (k : IntKind) (n : Nat) where
  l : List Int
  deriving DecidableEq, Inhabited
instance {k : IntKind} {n : Nat} : Rp (AV k n) := ⟨n, fun _ cs x => cs = x.l.map (Value.int k) /\ x.l.length = n, fun h => by rw [h.1, C5, h.2], fun h => by rw [h.1]; intro u hu; obtain ⟨z, _, rfl⟩ := E1.1 hu; rfl, fun _ h => h⟩
section
variable {k : IntKind} {n : Nat}
def flA (x : AV k n) : List (SV E) := [.vec k n x.l]
def foA (x : AV k n) (m : Mn E) (cs : List Value) (h : Rp.Is m.G cs x) : RC m (flA x) cs := ⟨cs, [], (D6 _).symm, h, rfl⟩
def shA (k : IntKind) (n : Nat) (_ : List Bool) : List (SV E) -> Option (AV k n)
 | [.vec k' n' l] => bif decide (k' = k) && Nat.beq n' n then some ⟨l⟩ else none
 | _ => none
def soA (x : AV k n) (m : Mn E) (l : List (SV E)) (cs : List Value) (h : shA k n m.bs l = some x) (hc : RC m l cs) : Rp.Is m.G cs x := by
 unfold shA at h
 split at h
 ·rename_i k' n' l'; cases hq : decide (k' = k) && Nat.beq n' n with
  | false => rw [hq] at h; cases h
  | true =>
   rw [hq] at h; simp only [B5, A3] at h; subst h; simp only [A7, C6] at hq; obtain ⟨rfl, h2⟩ := hq; have h2 := A8 h2; subst h2; exact hc.one_
 ·cases h
end
end Go.Vz
