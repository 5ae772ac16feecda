/- Walks by reckoning: what stands for a value of Go's in a frame, and what it says of memory. No condition. -/
import Derived.Test.YtpbcabanpppfoaaGreatGxEnt
import Derived.Test.YtpbcabanpppfoaaGreatGxSlot
set_option linter.all false
namespace Go.Vz
open Go Go.Gx

/-! ### Data -/
inductive Ty where
  | int | bool | u8 | dig | str
  | ik (k : IntKind)
  | st (n : Nat)
  | sl (t : Ty)
  deriving DecidableEq, Inhabited
structure DE where
  T : Nat → Type
  dflt : (n : Nat) → T n
  rp : (n : Nat) → Rp (T n)
  dec : (n : Nat) → DecidableEq (T n)
  enc : (n : Nat) → T n → List Value := fun _ _ => []
@[reducible] def Ty.den (E : DE) : Ty → Type
  | .int => Int
  | .bool => Bool
  | .u8 => UInt8
  | .dig => Dig
  | .str => List UInt8
  | .ik _ => Int
  | .st n => E.T n
  | .sl t => List (t.den E)
def Ty.dflt (E : DE) : (t : Ty) → t.den E
  | .int => (0 : Int)
  | .bool => false
  | .u8 => (0 : UInt8)
  | .dig => Dig.zero
  | .str => ([] : List UInt8)
  | .ik _ => (0 : Int)
  | .st n => E.dflt n
  | .sl _ => []
def strV (s : List UInt8) : Value := .string ⟨s.toArray⟩
@[reducible] def rpStr : Rp (List UInt8) := ⟨1, fun _ cs x => cs = [strV x], fun h => by rw [h]; rfl, fun h => by rw [h]; intro u hu; rw [List.mem_singleton] at hu; subst hu; rfl, fun _ h => h⟩
@[reducible] def rpIk (k : IntKind) : Rp Int := ⟨1, fun _ cs x => cs = [.int k x], fun h => by rw [h]; rfl, fun h => by rw [h]; intro u hu; rw [List.mem_singleton] at hu; subst hu; rfl, fun _ h => h⟩
/-- A value of one cell, as it is. -/
@[reducible] def rpV : Rp Value := ⟨1, fun _ cs x => cs = [x] ∧ x.oneCell' = true, fun h => by rw [h.1]; rfl, fun h => by rw [h.1]; intro u hu; rw [List.mem_singleton] at hu; subst hu; exact h.2, fun _ h => h⟩
instance Ty.dec (E : DE) : (t : Ty) → DecidableEq (t.den E)
  | .int => inferInstanceAs (DecidableEq Int)
  | .bool => inferInstanceAs (DecidableEq Bool)
  | .u8 => inferInstanceAs (DecidableEq UInt8)
  | .dig => inferInstanceAs (DecidableEq Dig)
  | .str => inferInstanceAs (DecidableEq (List UInt8))
  | .ik _ => inferInstanceAs (DecidableEq Int)
  | .st n => E.dec n
  | .sl t => @instDecidableEqList _ (Ty.dec E t)
/-- A key, as a value. -/
def Ty.enc (E : DE) : (t : Ty) → t.den E → Value
  | .int, x => .int .i64 x
  | .bool, x => .bool x
  | .u8, x => .int .u8 (UInt8.toNat x : Int)
  | .dig, d => .agg (Dig.cells d).toArray
  | .str, s => strV s
  | .ik k, x => .int k x
  | .st n, x => .agg (E.enc n x).toArray
  | .sl _, _ => .nilFunc
instance Ty.rp (E : DE) : (t : Ty) → Rp (t.den E)
  | .int => inferInstanceAs (Rp Int)
  | .bool => inferInstanceAs (Rp Bool)
  | .u8 => inferInstanceAs (Rp UInt8)
  | .dig => inferInstanceAs (Rp Dig)
  | .str => rpStr
  | .ik k => rpIk k
  | .st n => E.rp n
  | .sl t => @instRpList _ (Ty.rp E t)

/-- Of one type, if it is of the other. -/
def natTo : (C : Nat → Type) → (n m : Nat) → C n → Option (C m)
  | _, 0, 0, x => some x
  | C, n + 1, m + 1, x => natTo (fun k => C (k + 1)) n m x
  | _, 0, _ + 1, _ => none
  | _, _ + 1, 0, _ => none
def Ty.to : (C : Ty → Type) → (t u : Ty) → C t → Option (C u)
  | _, .int, .int, x => some x
  | _, .bool, .bool, x => some x
  | _, .u8, .u8, x => some x
  | _, .dig, .dig, x => some x
  | _, .str, .str, x => some x
  | C, .ik k, .ik j, x => if h : k = j then some (h ▸ x) else none
  | C, .st n, .st m, x => natTo (fun k => C (.st k)) n m x
  | C, .sl a, .sl b, x => Ty.to (fun t => C (.sl t)) a b x
  | _, _, _, _ => none
theorem natTo_ok : ∀ {C : Nat → Type} {n m : Nat} {x : C n} {y : C m}, natTo C n m x = some y → ∃ h : n = m, h ▸ x = y
  | _, 0, 0, x, y, h => ⟨rfl, by simpa [natTo] using h⟩
  | C, n + 1, m + 1, x, y, h => by
    obtain ⟨e, h⟩ := natTo_ok (C := fun k => C (k + 1)) h
    subst e; exact ⟨rfl, h⟩
  | _, 0, _ + 1, _, _, h => by simp [natTo] at h
  | _, _ + 1, 0, _, _, h => by simp [natTo] at h
theorem Ty.to_ok : ∀ {t : Ty} {C : Ty → Type} {u : Ty} {x : C t} {y : C u}, Ty.to C t u x = some y → ∃ h : t = u, h ▸ x = y := by
  intro t
  induction t with
  | st n =>
    intro C u x y h
    cases u <;> simp only [Ty.to] at h <;> try (cases h; done)
    obtain ⟨e, h⟩ := natTo_ok (C := fun k => C (.st k)) h
    subst e; exact ⟨rfl, h⟩
  | sl t ih =>
    intro C u x y h
    cases u <;> simp only [Ty.to] at h <;> try (cases h; done)
    obtain ⟨e, h⟩ := ih (C := fun t => C (.sl t)) h
    subst e; exact ⟨rfl, h⟩
  | ik k =>
    intro C u x y h
    cases u <;> simp only [Ty.to] at h <;> try (cases h; done)
    rename_i j
    by_cases hk : k = j
    · subst hk; exact ⟨rfl, by simpa using h⟩
    · rw [dif_neg hk] at h; cases h
  | _ =>
    intro C u x y h
    cases u <;> simp only [Ty.to, Option.some.injEq] at h <;> first | (cases h; done) | exact ⟨rfl, h⟩

/-! ### Values -/
inductive SV (E : DE) : Type where
  | i (k : IntKind) (n : Int)
  | b (x : Bool)
  | lit (x : Bool)
  | bv (id : Nat)
  | u8 (x : UInt8)
  | dig (d : Dig)
  | str (s : List UInt8)
  | agg (l : List (SV E))
  | tup (l : List (SV E))
  | sl (t : Ty) (xs : List (t.den E))
  | nilp | nilm | nilf | nils
  | ptr (id off : Nat)
  | own (id : Nat)
  | oel (id i sz off : Nat)
  | mp (id : Nat)
  | ifc (T id off : Nat)
  | stm (id : Nat)
  | vw (id off : Nat)
  | otl (id lo sz : Nat)
  | elm (t : Ty) (x : t.den E) (off : Nat)
  | vec (k : IntKind) (n : Nat) (l : List Int)
  | vel (id off n i : Nat)
  | vsl (id off n lo len : Nat)
  | fn (f : Nat) (caps : List (SV E))
  | mth (x : SV E) (name : String)
  | nxt
  | undef
/-- What a block holds. -/
inductive HB (E : DE) where
  | box (T : Nat) (c : List (SV E))
  | arr (t : Ty) (e : Nat) (xs : List (t.den E))
  | fz (t : Ty) (xs : List (t.den E))
  | map (k v : Ty) (xs : List (k.den E × v.den E))
  | itr (mid ver kt : Nat) (k : Ty) (left : List (k.den E))
  | cur (mid ver kt : Nat) (k : Ty) (x : k.den E) (left : List (k.den E))
  | stp (mid ver : Nat) (k : Ty) (x : k.den E)
  | pts (e : Nat) (xs : List (SV E))
  | oth
/-- What is meant by the names in values: ghost heap, what the numbers of blocks and slices stand for, how many there are, and tests. -/
structure Mn (E : DE) where
  G : Gh
  ν : Nat → Value
  n : Nat
  bs : List Bool
  C : Nat → HB E
  R : Nat → List Bx
  O : Nat → List (Nat × Obj)
/-- A value reads as a datum. -/
def IsV {E : DE} (G : Gh) : (t : Ty) → t.den E → Value → Prop
  | .st n, x, v => ∃ cs, v = .agg cs.toArray ∧ (E.rp n).Is G cs x
  | .dig, d, v => v = .agg (Dig.cells d).toArray
  | .int, x, v => v = .int .i64 x
  | .bool, x, v => v = .bool x
  | .u8, x, v => v = .int .u8 (UInt8.toNat x : Int)
  | .str, x, v => v = strV x
  | .ik k, x, v => v = .int k x
  | .sl t, xs, v => @Sl (t.den E) (t.rp E) G v xs
theorem Sl.mono_ {α : Type} [Rp α] {G G' : Gh} (hg : GLe G G') {v : Value} {xs : List α} (h : Sl G v xs) : Sl G' v xs := Sl.mono hg h
theorem IsV.mono {E : DE} {G G' : Gh} (hg : GLe G G') {t : Ty} {x : t.den E} {v : Value} (h : IsV G t x v) : IsV G' t x v := by
  cases t with
  | st n => obtain ⟨cs, h1, h2⟩ := h; exact ⟨cs, h1, (E.rp n).mono hg h2⟩
  | sl t => exact Sl.mono_ hg h
  | _ => exact h
@[reducible] def rlT (E : DE) (t : Ty) : Rl (t.den E) := ⟨fun G v x => IsV G t x v, fun hg h => IsV.mono hg h⟩
/-- A map's block, as a list. -/
def MpT (E : DE) (G : Gh) (k v : Ty) (o : Obj) (xs : List (k.den E × v.den E)) : Prop := @MpO (k.den E) (v.den E) (rlT E v) (k.enc E) G o xs
theorem MpT.mono {E : DE} {G G' : Gh} (hg : GLe G G') {k v : Ty} {o : Obj} {xs : List (k.den E × v.den E)} (h : MpT E G k v o xs) : MpT E G' k v o xs := by
  letI := rlT E v
  exact MpO.mono hg h
variable {E : DE}
def Mn.b (m : Mn E) (id : Nat) : Bool := (m.bs[id]?).getD false
/-- A value of one cell. -/
def L (m : Mn E) : SV E → Value → Prop
  | .i k n, v => v = .int k n
  | .b x, v => v = .bool x
  | .lit x, v => v = .bool x
  | .bv id, v => id < m.bs.length ∧ v = .bool (m.b id)
  | .u8 x, v => v = .int .u8 (x.toNat : Int)
  | .str s, v => v = strV s
  | .sl t xs, v => Sl m.G v xs
  | .nilp, v => v = .pointer none
  | .nilm, v => v = .map none
  | .nilf, v => v = .nilFunc
  | .nils, v => v = .slice none 0 0
  | .ptr id off, v => id < m.n ∧ ∃ b o, m.ν id = .pointer (some ⟨b, o, none⟩) ∧ v = .pointer (some ⟨b, o + off, none⟩)
  | .own id, v => id < m.n ∧ v = m.ν id ∧ ∃ A k c, m.ν id = .slice A k c
  | .oel id i sz off, v => id < m.n ∧ ∃ b o n c, m.ν id = .slice (some ⟨b, o, none⟩) n c ∧ i < n ∧ v = .pointer (some ⟨b, o + i * sz + off, none⟩)
  | .mp id, v => id < m.n ∧ v = m.ν id ∧ ∃ b, m.ν id = .map (some b)
  | .ifc T id off, v => id < m.n ∧ ∃ b o, m.ν id = .pointer (some ⟨b, o, none⟩) ∧ v = .iface T (.pointer (some ⟨b, o + off, none⟩))
  | .vw id off, v => id < m.n ∧ ∃ b o, m.ν id = .pointer (some ⟨b, o, none⟩) ∧ v = .slice (some ⟨b, o + off, none⟩) 32 32
  | .otl id lo sz, v => id < m.n ∧ ∃ A n c, m.ν id = .slice A n c ∧ v = .slice (if c = lo then A else A.map (·.add (lo * sz))) (n - lo) (c - lo)
  | .stm id, v => id < m.n ∧ v = m.ν id ∧ ∃ st, m.ν id = .int .i64 st
  | .elm _ x off, v => ∃ b o row, v = .pointer (some ⟨b, o + off, none⟩) ∧ RowG m.G b o row ∧ Rp.Is m.G row x
  | .vel id off n i, v => id < m.n ∧ i < n ∧ ∃ b o, m.ν id = .pointer (some ⟨b, o, none⟩) ∧ v = .pointer (some ⟨b, o + off + i, none⟩)
  | .vsl id off n lo len, v => id < m.n ∧ lo + len ≤ n ∧ lo < n ∧ ∃ b o, m.ν id = .pointer (some ⟨b, o, none⟩) ∧ v = .slice (some ⟨b, o + off + lo, none⟩) len (n - lo)
  | _, _ => False
/-- The cells of a field. -/
def C1 (m : Mn E) : SV E → List Value → Prop
  | .dig d, cs => cs = d.cells
  | .vec k n l, cs => cs = l.map (Value.int k) ∧ l.length = n
  | x, cs => ∃ v, cs = [v] ∧ L m x v
def RC (m : Mn E) : List (SV E) → List Value → Prop
  | [], cs => cs = []
  | a :: r, cs => ∃ c1 c2, cs = c1 ++ c2 ∧ C1 m a c1 ∧ RC m r c2
def LL (m : Mn E) : List (SV E) → List Value → Prop
  | [], vs => vs = []
  | a :: r, vs => ∃ v us, vs = v :: us ∧ L m a v ∧ LL m r us
def V1 (m : Mn E) : SV E → Value → Prop
  | .dig d, v => v = .agg d.cells.toArray
  | .vec k n l, v => v = .agg (l.map (Value.int k)).toArray ∧ l.length = n
  | .agg l, v => ∃ cs, v = .agg cs.toArray ∧ RC m l cs
  | .fn f caps, v => ∃ vs, v = .func (.func f) #[] vs.toArray ∧ LL m caps vs
  | .mth x name, v => ∃ u, v = .func (.method name) #[u] #[] ∧ L m x u
  | x, v => L m x v
def LV (m : Mn E) : List (SV E) → List Value → Prop
  | [], vs => vs = []
  | a :: r, vs => ∃ v us, vs = v :: us ∧ V1 m a v ∧ LV m r us
def RV (m : Mn E) : SV E → Value → Prop
  | .tup l, v => ∃ vs, v = .tuple vs.toArray ∧ LV m l vs
  | .undef, v => v = Go.undef
  | .nxt, v => ∃ vs : Array Value, v = .tuple vs ∧ vs[0]? = some (.bool true)
  | x, v => V1 m x v
def SV.w : SV E → Nat
  | .dig _ => 32
  | .vec _ n _ => n
  | _ => 1
def wid : List (SV E) → Nat
  | [] => 0
  | a :: r => a.w + wid r
theorem C1.len {m : Mn E} {x : SV E} {cs : List Value} (h : C1 m x cs) : cs.length = x.w := by
  cases x <;> first | (obtain ⟨_, rfl, _⟩ := h; rfl) | (have h : cs = _ := h; rw [h]; exact Dig.length_cells _) | (obtain ⟨rfl, h⟩ := h; rw [List.length_map]; exact h)
theorem RC.len {m : Mn E} : ∀ {l : List (SV E)} {cs : List Value}, RC m l cs → cs.length = wid l
  | [], _, h => by rw [show _ = _ from h]; rfl
  | _ :: _, _, ⟨_, _, h, h1, h2⟩ => by rw [h, List.length_append, h1.len, h2.len]; rfl
theorem L.one {m : Mn E} {x : SV E} {v : Value} (h : L m x v) : v.oneCell' = true := by
  cases x <;> simp only [L] at h <;> first
    | (subst h; rfl)
    | (obtain ⟨_, rfl⟩ := h; rfl)
    | (obtain ⟨_, _, h, _⟩ := h; rw [h]; rfl)
    | (obtain ⟨_, _, _, _, rfl⟩ := h; rfl)
    | (obtain ⟨_, h, _, _, _, h2⟩ := h; rw [h, h2]; rfl)
    | (obtain ⟨_, h, _, h2⟩ := h; rw [h, h2]; rfl)
    | (obtain ⟨_, _, _, _, _, _, _, rfl⟩ := h; rfl)
    | (obtain ⟨_, _, _, rfl, _⟩ := h; rfl)
    | (obtain ⟨_, h, _, h2⟩ := h; rw [h, h2]; rfl)
    | (obtain ⟨_, _, _, _, _, rfl⟩ := h; rfl)
    | (obtain ⟨_, _, _, _, _, _, rfl⟩ := h; rfl)
theorem C1.one {m : Mn E} {x : SV E} {cs : List Value} (h : C1 m x cs) : ∀ u ∈ cs, u.oneCell' = true := by
  cases x <;> first
    | (obtain ⟨v, rfl, hv⟩ := h; intro u hu; rw [List.mem_singleton] at hu; subst hu; exact hv.one)
    | (have h : cs = _ := h; rw [h]; exact mem_cells _)
    | (obtain ⟨rfl, _⟩ := h; intro u hu; obtain ⟨z, _, rfl⟩ := List.mem_map.1 hu; rfl)
theorem RC.one {m : Mn E} : ∀ {l : List (SV E)} {cs : List Value}, RC m l cs → ∀ u ∈ cs, u.oneCell' = true
  | [], _, h => by rw [show _ = _ from h]; intro u hu; cases hu
  | _ :: _, _, ⟨_, _, h, h1, h2⟩ => by
    rw [h]; intro u hu
    rcases List.mem_append.1 hu with hu | hu
    · exact h1.one u hu
    · exact h2.one u hu
/-- More is known. -/
structure Up (m m' : Mn E) : Prop where
  g : GLe m.G m'.G
  n : m.n ≤ m'.n
  ν : ∀ i, i < m.n → m'.ν i = m.ν i
  b : m.bs.length ≤ m'.bs.length
  bs : ∀ i, i < m.bs.length → m'.b i = m.b i
  c : ∀ i, i < m.n → m'.C i = m.C i
  r : ∀ i, i < m.n → m'.R i = m.R i
  o : ∀ i, i < m.n → m'.O i = m.O i
theorem Up.refl (m : Mn E) : Up m m := ⟨fun _ _ h => h, Nat.le_refl _, fun _ _ => rfl, Nat.le_refl _, fun _ _ => rfl, fun _ _ => rfl, fun _ _ => rfl, fun _ _ => rfl⟩
theorem Up.trans {a b c : Mn E} (h : Up a b) (k : Up b c) : Up a c :=
  ⟨fun x o hx => k.g x o (h.g x o hx), Nat.le_trans h.n k.n, fun i hi => (k.ν i (Nat.lt_of_lt_of_le hi h.n)).trans (h.ν i hi), Nat.le_trans h.b k.b, fun i hi => (k.bs i (Nat.lt_of_lt_of_le hi h.b)).trans (h.bs i hi), fun i hi => (k.c i (Nat.lt_of_lt_of_le hi h.n)).trans (h.c i hi), fun i hi => (k.r i (Nat.lt_of_lt_of_le hi h.n)).trans (h.r i hi), fun i hi => (k.o i (Nat.lt_of_lt_of_le hi h.n)).trans (h.o i hi)⟩
theorem L.up {m m' : Mn E} (u : Up m m') {x : SV E} {v : Value} (h : L m x v) : L m' x v := by
  cases x <;> simp only [L] at h ⊢ <;> try exact h
  · exact ⟨Nat.lt_of_lt_of_le h.1 u.b, by rw [u.bs _ h.1]; exact h.2⟩
  · exact Sl.mono u.g h
  · obtain ⟨h1, b, o, h2, h3⟩ := h; exact ⟨Nat.lt_of_lt_of_le h1 u.n, b, o, (u.ν _ h1).trans h2, h3⟩
  · rw [u.ν _ h.1]; exact ⟨Nat.lt_of_lt_of_le h.1 u.n, h.2⟩
  · rw [u.ν _ h.1]; exact ⟨Nat.lt_of_lt_of_le h.1 u.n, h.2⟩
  · rw [u.ν _ h.1]; exact ⟨Nat.lt_of_lt_of_le h.1 u.n, h.2⟩
  · rw [u.ν _ h.1]; exact ⟨Nat.lt_of_lt_of_le h.1 u.n, h.2⟩
  · rw [u.ν _ h.1]; exact ⟨Nat.lt_of_lt_of_le h.1 u.n, h.2⟩
  · rw [u.ν _ h.1]; exact ⟨Nat.lt_of_lt_of_le h.1 u.n, h.2⟩
  · rw [u.ν _ h.1]; exact ⟨Nat.lt_of_lt_of_le h.1 u.n, h.2⟩
  · obtain ⟨b, o, row, h1, h2, h3⟩ := h; exact ⟨b, o, row, h1, h2.mono u.g, Rp.mono u.g h3⟩
  · obtain ⟨h1, h0, b, o, h2, h3⟩ := h; exact ⟨Nat.lt_of_lt_of_le h1 u.n, h0, b, o, (u.ν _ h1).trans h2, h3⟩
  · obtain ⟨h1, h0, h4, b, o, h2, h3⟩ := h; exact ⟨Nat.lt_of_lt_of_le h1 u.n, h0, h4, b, o, (u.ν _ h1).trans h2, h3⟩
theorem C1.up {m m' : Mn E} (u : Up m m') {x : SV E} {cs : List Value} (h : C1 m x cs) : C1 m' x cs := by
  cases x <;> first | exact h | (obtain ⟨v, h1, h2⟩ := h; exact ⟨v, h1, h2.up u⟩)
theorem RC.up {m m' : Mn E} (u : Up m m') : ∀ {l : List (SV E)} {cs : List Value}, RC m l cs → RC m' l cs
  | [], _, h => h
  | _ :: _, _, ⟨c1, c2, h, h1, h2⟩ => ⟨c1, c2, h, h1.up u, h2.up u⟩
theorem LL.up {m m' : Mn E} (u : Up m m') : ∀ {l : List (SV E)} {vs : List Value}, LL m l vs → LL m' l vs
  | [], _, h => h
  | _ :: _, _, ⟨c1, c2, h, h1, h2⟩ => ⟨c1, c2, h, h1.up u, h2.up u⟩
theorem V1.up {m m' : Mn E} (u : Up m m') {x : SV E} {v : Value} (h : V1 m x v) : V1 m' x v := by
  cases x <;> simp only [V1] at h ⊢ <;> first
    | exact L.up u h
    | (obtain ⟨cs, h1, h2⟩ := h; exact ⟨cs, h1, RC.up u h2⟩)
    | (obtain ⟨cs, h1, h2⟩ := h; exact ⟨cs, h1, LL.up u h2⟩)
    | (obtain ⟨cs, h1, h2⟩ := h; exact ⟨cs, h1, L.up u h2⟩)
    | exact h
theorem LV.up {m m' : Mn E} (u : Up m m') : ∀ {l : List (SV E)} {vs : List Value}, LV m l vs → LV m' l vs
  | [], _, h => h
  | _ :: _, _, ⟨c1, c2, h, h1, h2⟩ => ⟨c1, c2, h, h1.up u, h2.up u⟩
theorem RV.up {m m' : Mn E} (u : Up m m') {x : SV E} {v : Value} (h : RV m x v) : RV m' x v := by
  cases x <;> simp only [RV] at h ⊢ <;> first
    | exact V1.up u h
    | (obtain ⟨vs, h1, h2⟩ := h; exact ⟨vs, h1, LV.up u h2⟩)
    | exact h
end Go.Vz
