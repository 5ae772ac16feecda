/- Walks by reckoning: operations that but read. No condition. -/
import Derived.Test.YtpbcabanpppfoaaGreatVzSt
set_option linter.all false
namespace Go.Vz
open Go Go.Gx
variable {E : DE}

/-! ### Parts of a row -/
def dropW : Nat → List (SV E) → Option (List (SV E))
  | 0, l => some l
  | _ + 1, [] => none
  | n + 1, a :: r => bif Nat.ble a.w (n + 1) then dropW (n + 1 - a.w) r else none
def takeW : Nat → List (SV E) → Option (List (SV E))
  | 0, _ => some []
  | _ + 1, [] => none
  | n + 1, a :: r => bif Nat.ble a.w (n + 1) then match takeW (n + 1 - a.w) r with | some l => some (a :: l) | none => none else none
theorem RC.drop {m : Mn E} : ∀ {l : List (SV E)} {n : Nat} {r : List (SV E)} {cs : List Value}, dropW n l = some r → RC m l cs → RC m r (cs.drop n)
  | l, 0, r, cs, h, hc => by simp only [dropW, Option.some.injEq] at h; subst h; exact hc
  | [], n + 1, r, cs, h, hc => by simp [dropW] at h
  | a :: t, n + 1, r, cs, h, hc => by
    obtain ⟨c1, c2, rfl, h1, h2⟩ := hc
    unfold dropW at h
    cases hb : Nat.ble a.w (n + 1) with
    | false => rw [hb] at h; cases h
    | true =>
      rw [hb] at h
      have hle := Nat.le_of_ble_eq_true hb
      have := h2.drop h
      rw [List.drop_append, h1.len, List.drop_eq_nil_of_le (by rw [h1.len]; exact hle)]
      exact this
theorem RC.take {m : Mn E} : ∀ {l : List (SV E)} {n : Nat} {r : List (SV E)} {cs : List Value}, takeW n l = some r → RC m l cs → RC m r (cs.take n)
  | l, 0, r, cs, h, hc => by simp only [takeW, Option.some.injEq] at h; subst h; rw [List.take_zero]; rfl
  | [], n + 1, r, cs, h, hc => by simp [takeW] at h
  | a :: t, n + 1, r, cs, h, hc => by
    obtain ⟨c1, c2, rfl, h1, h2⟩ := hc
    unfold takeW at h
    cases hb : Nat.ble a.w (n + 1) with
    | false => rw [hb] at h; cases h
    | true =>
      rw [hb] at h
      have hle := Nat.le_of_ble_eq_true hb
      simp only [cond_true] at h
      split at h
      · rename_i l' hl'
        simp only [Option.some.injEq] at h
        subst h
        refine ⟨c1, c2.take (n + 1 - a.w), ?_, h1, h2.take hl'⟩
        rw [List.take_append, h1.len, List.take_of_length_le (by rw [h1.len]; exact hle)]
      · cases h
theorem takeW_len : ∀ {l : List (SV E)} {n : Nat} {r : List (SV E)}, takeW n l = some r → wid r = n
  | l, 0, r, h => by simp only [takeW, Option.some.injEq] at h; subst h; rfl
  | [], n + 1, r, h => by simp [takeW] at h
  | a :: t, n + 1, r, h => by
    unfold takeW at h
    cases hb : Nat.ble a.w (n + 1) with
    | false => rw [hb] at h; cases h
    | true =>
      rw [hb] at h
      have hle := Nat.le_of_ble_eq_true hb
      simp only [cond_true] at h
      split at h
      · rename_i l' hl'
        simp only [Option.some.injEq] at h
        subst h
        have := takeW_len hl'
        simp only [wid, this]; omega
      · cases h
def seg (l : List (SV E)) (o n : Nat) : Option (List (SV E)) := match dropW o l with | some r => takeW n r | none => none
theorem RC.seg {m : Mn E} {l r : List (SV E)} {o n : Nat} {cs : List Value} (h : seg l o n = some r) (hc : RC m l cs) : RC m r ((cs.drop o).take n) ∧ ((cs.drop o).take n).length = n := by
  unfold Vz.seg at h
  split at h
  · rename_i t ht
    have := (hc.drop ht).take h
    exact ⟨this, by rw [this.len, takeW_len h]⟩
  · cases h
/-- A row, as a value. -/
def mkRow : List (SV E) → SV E
  | [.dig d] => .dig d
  | [.vec k n l] => .vec k n l
  | l => .agg l
theorem mkRow_ok {m : Mn E} {l : List (SV E)} {cs : List Value} (h : RC m l cs) : RV m (mkRow l) (.agg cs.toArray) := by
  unfold mkRow
  split
  · obtain ⟨c1, c2, rfl, h1, h2⟩ := h
    have h1 : c1 = _ := h1
    have h2 : c2 = _ := h2
    subst h1 h2
    show _ = Value.agg _
    rw [List.append_nil]
  · obtain ⟨c1, c2, rfl, ⟨h1, h3⟩, h2⟩ := h
    have h2 : c2 = _ := h2
    subst h1 h2
    exact ⟨by rw [List.append_nil], h3⟩
  · exact ⟨cs, rfl, h⟩
theorem mkRow_V1 {m : Mn E} {l : List (SV E)} {cs : List Value} (h : RC m l cs) : V1 m (mkRow l) (.agg cs.toArray) := by
  have := mkRow_ok h
  revert this
  unfold mkRow
  split <;> exact fun h => h
/-- A value's cells. -/
def cellsOf : SV E → Option (List (SV E))
  | .agg l => some l
  | .tup _ => none
  | .fn _ _ => none
  | .mth _ _ => none
  | .undef => none
  | .nxt => none
  | x => some [x]
def leaf : SV E → Bool
  | .agg _ => false
  | .tup _ => false
  | .fn _ _ => false
  | .mth _ _ => false
  | .undef => false
  | .nxt => false
  | .dig _ => false
  | .vec _ _ _ => false
  | _ => true
theorem leaf_L {m : Mn E} {x : SV E} {v : Value} (h : leaf x = true) (hv : RV m x v) : L m x v := by
  cases x <;> first | exact hv | (cases h; done)
theorem leaf_RV {m : Mn E} {x : SV E} {v : Value} (h : leaf x = true) (hv : L m x v) : RV m x v := by
  cases x <;> first | exact hv | (cases h; done)
theorem leaf_C1 {m : Mn E} {x : SV E} {v : Value} (h : leaf x = true) (hv : L m x v) : C1 m x [v] := by
  cases x <;> first | exact ⟨v, rfl, hv⟩ | (cases h; done)
theorem cellsOf_ok {m : Mn E} {x : SV E} {l : List (SV E)} {v : Value} (h : cellsOf x = some l) (hv : RV m x v) : ∃ cs, v.cells = cs.toArray ∧ RC m l cs := by
  cases x with
  | agg k => simp only [cellsOf, Option.some.injEq] at h; subst h; obtain ⟨cs, rfl, hc⟩ := hv; exact ⟨cs, rfl, hc⟩
  | tup k => cases h
  | fn f k => cases h
  | mth f k => cases h
  | undef => cases h
  | nxt => cases h
  | dig d => simp only [cellsOf, Option.some.injEq] at h; subst h; have hv : v = _ := hv; subst hv; exact ⟨d.cells, rfl, d.cells, [], by simp, rfl, rfl⟩
  | vec k n z => simp only [cellsOf, Option.some.injEq] at h; subst h; obtain ⟨rfl, hv⟩ := hv; exact ⟨_, rfl, _, [], by simp, ⟨rfl, hv⟩, rfl⟩
  | _ =>
    all_goals
      simp only [cellsOf, Option.some.injEq] at h; subst h
      have hl := leaf_L rfl hv
      exact ⟨[v], oneCell_of_cells v hl.one, [v], [], rfl, leaf_C1 rfl hl, rfl⟩
/-! ### Numbers -/
def asI : SV E → Option (IntKind × Int)
  | .i k n => some (k, n)
  | .u8 x => some (.u8, (x.toNat : Int))
  | _ => none
theorem asI_ok {m : Mn E} {x : SV E} {v : Value} {k : IntKind} {n : Int} (h : asI x = some (k, n)) (hv : RV m x v) : v = .int k n := by
  cases x <;> simp only [asI] at h <;> first | (cases h; done) | (injection h with h; injection h with h1 h2; subst h1 h2; exact hv)
def asB (bs : List Bool) : SV E → Option Bool
  | .b x => some x
  | .lit x => some x
  | .bv id => bs[id]?
  | _ => none
theorem asB_ok {m : Mn E} {x : SV E} {v : Value} {b : Bool} (h : asB m.bs x = some b) (hv : RV m x v) : v = .bool b := by
  cases x <;> simp only [asB] at h <;> try (cases h; done)
  · injection h with h; subst h; exact hv
  · injection h with h; subst h; exact hv
  · have hv : _ ∧ v = _ := hv
    rw [hv.2]; unfold Mn.b; rw [h]; rfl
def mkI (k : IntKind) (z : Int) : SV E := match k with | .u8 => .u8 (UInt8.ofNat z.toNat) | k => .i k z
theorem mkI_ok {m : Mn E} {k : IntKind} {z : Int} (h : k = .u8 → 0 ≤ z ∧ z < 256) : RV m (mkI k z : SV E) (.int k z) := by
  unfold mkI
  split
  · obtain ⟨h1, h2⟩ := h rfl
    show Value.int .u8 z = .int .u8 (((UInt8.ofNat z.toNat).toNat : Nat) : Int)
    have : (UInt8.ofNat z.toNat).toNat = z.toNat := by simp; omega
    rw [this]; congr 1; omega
  · rfl
theorem wrap_rng (z : Int) : 0 ≤ IntKind.u8.wrap z ∧ IntKind.u8.wrap z < 256 := by rw [IntKind.wrap_u8]; omega
theorem mkW_ok {m : Mn E} {k : IntKind} {z : Int} : RV m (mkI k (k.wrap z) : SV E) (.int k (k.wrap z)) := mkI_ok fun h => by subst h; exact wrap_rng z

/-! ### Fields, by kind -/
def gInt : SV E → Option Int
  | .i .i64 n => some n
  | _ => none
def gU8 : SV E → Option UInt8
  | .u8 n => some n
  | _ => none
def gDig : SV E → Option Dig
  | .dig n => some n
  | _ => none
def gSl (t : Ty) : SV E → Option (List (t.den E))
  | .nils => some []
  | .sl t' xs => Ty.to (fun t => List (t.den E)) t' t xs
  | _ => none
theorem Sl.to {m : Mn E} {t t' : Ty} {xs : List (t'.den E)} {a : List (t.den E)} {v : Value} (h : Ty.to (fun t => List (t.den E)) t' t xs = some a) (hv : @Sl _ (t'.rp E) m.G v xs) : @Sl _ (t.rp E) m.G v a := by
  obtain ⟨e, h⟩ := Ty.to_ok h
  subst e; subst h; exact hv
theorem gInt_ok {m : Mn E} {x : SV E} {a : Int} {c : List Value} (h : gInt x = some a) (hc : C1 m x c) : c = [.int .i64 a] := by
  unfold gInt at h; split at h
  · simp only [Option.some.injEq] at h; subst h; obtain ⟨v, rfl, h1⟩ := hc; have h1 : v = _ := h1; rw [h1]
  · cases h
theorem gU8_ok {m : Mn E} {x : SV E} {a : UInt8} {c : List Value} (h : gU8 x = some a) (hc : C1 m x c) : c = [.int .u8 (a.toNat : Int)] := by
  unfold gU8 at h; split at h
  · simp only [Option.some.injEq] at h; subst h; obtain ⟨v, rfl, h1⟩ := hc; have h1 : v = _ := h1; rw [h1]
  · cases h
theorem gDig_ok {m : Mn E} {x : SV E} {a : Dig} {c : List Value} (h : gDig x = some a) (hc : C1 m x c) : c = a.cells := by
  unfold gDig at h; split at h
  · simp only [Option.some.injEq] at h; subst h; exact hc
  · cases h
theorem gSl_ok {m : Mn E} {t : Ty} {x : SV E} {a : List (t.den E)} {c : List Value} (h : gSl t x = some a) (hc : C1 m x c) : ∃ v, c = [v] ∧ Sl m.G v a := by
  unfold gSl at h; split at h
  · simp only [Option.some.injEq] at h; subst h; obtain ⟨v, rfl, h1⟩ := hc; have h1 : v = _ := h1; subst h1; exact ⟨_, rfl, Sl.nil_ _⟩
  · rename_i t' xs
    obtain ⟨v, rfl, h1⟩ := hc; exact ⟨v, rfl, Sl.to h h1⟩
  · cases h
theorem gBool_ok {m : Mn E} {x : SV E} {a : Bool} {c : List Value} (h : asB m.bs x = some a) (hc : C1 m x c) : c = [.bool a] := by
  cases x <;> simp only [asB] at h <;> try (cases h; done)
  · simp only [Option.some.injEq] at h; subst h; obtain ⟨v, rfl, h1⟩ := hc; have h1 : v = _ := h1; rw [h1]
  · simp only [Option.some.injEq] at h; subst h; obtain ⟨v, rfl, h1⟩ := hc; have h1 : v = _ := h1; rw [h1]
  · obtain ⟨v, rfl, h1⟩ := hc
    obtain ⟨_, h1⟩ : _ ∧ v = _ := h1
    rw [h1]; unfold Mn.b; rw [h]; rfl
/-! ### What an operation comes to -/
inductive Res (E : DE) where
  | val (x : SV E)
  | cmp (b : Bool)
  | need (c : Bool) (x : SV E)
  | know (c : Bool) (x : SV E)
def Res.ok (P : Program) (m : Mn E) (N : Nat) (e : Env) (W : World → Prop) (op : Op) : Res E → Prop
  | .val x => ∃ v, RV m x v ∧ ∀ w, W w → ∀ d ty pos af gd, OpVal P N e w ⟨d, op, ty, pos, af, gd⟩ v
  | .cmp b => ∀ w, W w → ∀ d ty pos af gd, OpVal P N e w ⟨d, op, ty, pos, af, gd⟩ (.bool b)
  | .need c x => c = true → ∃ v, RV m x v ∧ ∀ w, W w → ∀ d ty pos af gd, OpVal P N e w ⟨d, op, ty, pos, af, gd⟩ v
  | .know c x => c = true ∧ ∃ v, RV m x v ∧ ∀ w, W w → ∀ d ty pos af gd, OpVal P N e w ⟨d, op, ty, pos, af, gd⟩ v
def bitK (op : BinOp) (k : IntKind) (a b : Int) : Int :=
  let x := BitVec.ofInt k.bits a
  let y := BitVec.ofInt k.bits b
  k.wrap ((match op with | .and => x &&& y | .or => x ||| y | .xor => x ^^^ y | _ => x &&& ~~~y).toNat : Int)
def shlK (k : IntKind) (a b : Int) : Int := k.wrap (a * 2 ^ (min b.toNat k.bits))
def shrK (k : IntKind) (a b : Int) : Int := a.fdiv (2 ^ (min b.toNat k.bits))
def isU8 : IntKind → Bool | .u8 => true | _ => false
/-- Two numbers. -/
def binI (op : BinOp) (k k' : IntKind) (a b : Int) : Option (Res E) :=
  match op with
  | .shl => some (.need (decide (0 ≤ b)) (mkI k (shlK k a b)))
  | .shr => bif isU8 k then none else some (.need (decide (0 ≤ b)) (.i k (shrK k a b)))
  | op => bif decide (k = k') then
      match op with
      | .lss => some (.cmp (decide (a < b)))
      | .leq => some (.cmp (decide (a ≤ b)))
      | .gtr => some (.cmp (decide (b < a)))
      | .geq => some (.cmp (decide (b ≤ a)))
      | .eql => some (.cmp (a == b))
      | .neq => some (.cmp (a != b))
      | .add => some (.val (mkI k (k.wrap (a + b))))
      | .sub => some (.val (mkI k (k.wrap (a - b))))
      | .mul => some (.val (mkI k (k.wrap (a * b))))
      | .quo => some (.need (b != 0) (mkI k (k.wrap (a.tdiv b))))
      | .rem => bif isU8 k then none else some (.need (b != 0) (.i k (a.tmod b)))
      | .and => some (.val (mkI k (bitK .and k a b)))
      | .or => some (.val (mkI k (bitK .or k a b)))
      | .xor => some (.val (mkI k (bitK .xor k a b)))
      | .andNot => some (.val (mkI k (bitK .andNot k a b)))
      | _ => none
    else none
section
variable {P : Program} {m : Mn E} {N : Nat} {e : Env} {W : World → Prop}
theorem binI_ok {op : BinOp} {t yt : TypeId} {x y : Operand} {k k' : IntKind} {a b : Int} {r : Res E} (hx : opv e x = some (.int k a)) (hy : opv e y = some (.int k' b)) (h : binI op k k' a b = some r) :
    r.ok P m N e W (.binOp op t x y yt) := by
  unfold binI at h
  split at h
  · simp only [Option.some.injEq] at h; subst h
    intro hc
    have hc := of_decide_eq_true hc
    exact ⟨_, mkW_ok, fun w hw d ty pos af gd => opBin hx hy (by simp only [binOp, Op.shift]; rw [if_neg (by omega)]; rfl)⟩
  · cases hu : isU8 k with
    | true => rw [hu] at h; cases h
    | false =>
      rw [hu] at h
      simp only [cond_false, Option.some.injEq] at h; subst h
      intro hc
      have hc := of_decide_eq_true hc
      exact ⟨_, rfl, fun w hw d ty pos af gd => opBin hx hy (by simp only [binOp, Op.shift]; rw [if_neg (by omega)]; rfl)⟩
  · cases hk : decide (k = k') with
    | false => rw [hk] at h; cases h
    | true =>
      rw [hk] at h
      have hk := of_decide_eq_true hk
      subst hk
      simp only [cond_true] at h
      split at h <;> try (cases h; done)
      · simp only [Option.some.injEq] at h; subst h; exact fun w hw d ty pos af gd => opLss hx hy
      · simp only [Option.some.injEq] at h; subst h; exact fun w hw d ty pos af gd => opLeq hx hy
      · simp only [Option.some.injEq] at h; subst h; exact fun w hw d ty pos af gd => opGtr hx hy
      · simp only [Option.some.injEq] at h; subst h; exact fun w hw d ty pos af gd => opGeq hx hy
      · simp only [Option.some.injEq] at h; subst h; exact fun w hw d ty pos af gd => opEql hx hy
      · simp only [Option.some.injEq] at h; subst h; exact fun w hw d ty pos af gd => opNeq hx hy
      · simp only [Option.some.injEq] at h; subst h; exact ⟨_, mkW_ok, fun w hw d ty pos af gd => opAdd hx hy⟩
      · simp only [Option.some.injEq] at h; subst h; exact ⟨_, mkW_ok, fun w hw d ty pos af gd => opSub hx hy⟩
      · simp only [Option.some.injEq] at h; subst h; exact ⟨_, mkW_ok, fun w hw d ty pos af gd => opMul hx hy⟩
      · simp only [Option.some.injEq] at h; subst h
        intro hc
        have hc : b ≠ 0 := by simpa using hc
        exact ⟨_, mkW_ok, fun w hw d ty pos af gd => opBin hx hy (by simp [binOp, Op.intDiv, hc])⟩
      · cases hu : isU8 k with
        | true => rw [hu] at h; cases h
        | false =>
          rw [hu] at h
          simp only [cond_false, Option.some.injEq] at h; subst h
          intro hc
          have hc : b ≠ 0 := by simpa using hc
          exact ⟨_, rfl, fun w hw d ty pos af gd => opRem hx hy hc⟩
      · simp only [Option.some.injEq] at h; subst h; exact ⟨_, mkW_ok, fun w hw d ty pos af gd => opBin hx hy (by simp [binOp, Op.intBits, bitK])⟩
      · simp only [Option.some.injEq] at h; subst h; exact ⟨_, mkW_ok, fun w hw d ty pos af gd => opBin hx hy (by simp [binOp, Op.intBits, bitK])⟩
      · simp only [Option.some.injEq] at h; subst h; exact ⟨_, mkW_ok, fun w hw d ty pos af gd => opBin hx hy (by simp [binOp, Op.intBits, bitK])⟩
      · simp only [Option.some.injEq] at h; subst h; exact ⟨_, mkW_ok, fun w hw d ty pos af gd => opBin hx hy (by simp [binOp, Op.intBits, bitK])⟩
end
/-! ### Data, opened -/
/-- How data lie in cells. -/
structure DF (E : DE) where
  flds : (n : Nat) → E.T n → List (SV E)
  opens : ∀ (n : Nat) (x : E.T n) (m : Mn E) (cs : List Value), (E.rp n).Is m.G cs x → RC m (flds n x) cs
  shut : (n : Nat) → List Bool → List (SV E) → Option (E.T n)
  shuts : ∀ (n : Nat) (x : E.T n) (m : Mn E) (l : List (SV E)) (cs : List Value), shut n m.bs l = some x → RC m l cs → (E.rp n).Is m.G cs x
variable (F : DF E)
def opn : (t : Ty) → t.den E → List (SV E)
  | .int, x => [.i .i64 x]
  | .bool, x => [.b x]
  | .u8, x => [.u8 x]
  | .dig, x => [.dig x]
  | .str, x => [.str x]
  | .ik k, x => [.i k x]
  | .st n, x => F.flds n x
  | .sl t, x => [.sl t x]
theorem RC.single {m : Mn E} {x : SV E} {v : Value} (h : leaf x = true) (hv : L m x v) : RC m [x] [v] := ⟨[v], [], rfl, leaf_C1 h hv, rfl⟩
theorem opn_ok {m : Mn E} : ∀ (t : Ty) (x : t.den E) (cs : List Value), Rp.Is m.G cs x → RC m (opn F t x) cs
  | .int, x, cs, h => by have h : cs = _ := h; subst h; exact RC.single rfl rfl
  | .bool, x, cs, h => by have h : cs = _ := h; subst h; exact RC.single rfl rfl
  | .u8, x, cs, h => by have h : cs = _ := h; subst h; exact RC.single rfl rfl
  | .dig, x, cs, h => ⟨cs, [], (List.append_nil _).symm, h, rfl⟩
  | .str, x, cs, h => by have h : cs = _ := h; subst h; exact RC.single rfl rfl
  | .ik k, x, cs, h => by have h : cs = _ := h; subst h; exact RC.single rfl rfl
  | .st n, x, cs, h => F.opens n x m cs h
  | .sl t, x, cs, h => by obtain ⟨v, rfl, h⟩ := h; exact RC.single rfl h
def shutT (bs : List Bool) : (t : Ty) → List (SV E) → Option (t.den E)
  | .int, l => match l with | [.i .i64 x] => some x | _ => none
  | .bool, l => match l with | [x] => asB bs x | _ => none
  | .u8, l => match l with | [.u8 x] => some x | _ => none
  | .dig, l => match l with | [.dig x] => some x | _ => none
  | .str, l => match l with | [.str x] => some x | _ => none
  | .ik k, l => match l with | [.i k' x] => bif decide (k' = k) then some x else none | _ => none
  | .st n, l => F.shut n bs l
  | .sl t, l => match l with | [x] => gSl t x | _ => none
theorem RC.one_ {m : Mn E} {x : SV E} {cs : List Value} (h : RC m [x] cs) : C1 m x cs := by
  obtain ⟨c1, c2, rfl, h1, h2⟩ := h
  have h2 : c2 = _ := h2
  subst h2; rw [List.append_nil]; exact h1
theorem C1.leaf_ {m : Mn E} {x : SV E} {cs : List Value} (hl : leaf x = true) (h : C1 m x cs) : ∃ v, cs = [v] ∧ L m x v := by
  cases x <;> first | exact h | (cases hl; done)
theorem asB_leaf {bs : List Bool} {x : SV E} {b : Bool} (h : asB bs x = some b) : leaf x = true := by
  cases x <;> first | rfl | (simp [asB] at h; done)
theorem shutT_ok {m : Mn E} : ∀ (t : Ty) (l : List (SV E)) (x : t.den E) (cs : List Value), shutT F m.bs t l = some x → RC m l cs → Rp.Is m.G cs x := by
  intro t l x cs h hc
  cases t with
  | int =>
    simp only [shutT] at h; split at h
    · simp only [Option.some.injEq] at h; subst h
      obtain ⟨v, rfl, h1⟩ := hc.one_.leaf_ rfl
      have h1 : v = _ := h1
      subst h1; rfl
    · cases h
  | bool =>
    simp only [shutT] at h; split at h
    · obtain ⟨v, rfl, h1⟩ := hc.one_.leaf_ (asB_leaf h)
      have := asB_ok h (leaf_RV (asB_leaf h) h1)
      subst this; rfl
    · cases h
  | u8 =>
    simp only [shutT] at h; split at h
    · simp only [Option.some.injEq] at h; subst h
      obtain ⟨v, rfl, h1⟩ := hc.one_.leaf_ rfl
      have h1 : v = _ := h1
      subst h1; rfl
    · cases h
  | dig =>
    simp only [shutT] at h; split at h
    · simp only [Option.some.injEq] at h; subst h
      exact hc.one_
    · cases h
  | st n => exact F.shuts n x m l cs h hc
  | str =>
    simp only [shutT] at h; split at h
    · simp only [Option.some.injEq] at h; subst h
      obtain ⟨v, rfl, h1⟩ := hc.one_.leaf_ rfl
      have h1 : v = _ := h1
      subst h1; rfl
    · cases h
  | ik k =>
    simp only [shutT] at h; split at h
    · rename_i k' x
      cases hk : decide (k' = k) with
      | false => rw [hk] at h; cases h
      | true =>
        rw [hk] at h
        have hk := of_decide_eq_true hk
        subst hk
        simp only [cond_true, Option.some.injEq] at h; subst h
        obtain ⟨v, rfl, h1⟩ := hc.one_.leaf_ rfl
        have h1 : v = _ := h1
        subst h1; rfl
    · cases h
  | sl t =>
    simp only [shutT] at h; split at h
    · exact gSl_ok h hc.one_
    · cases h
/-! ### Values, as data -/
def opnV : (t : Ty) → t.den E → SV E
  | .st n, x => mkRow (F.flds n x)
  | .dig, d => .dig d
  | .int, x => .i .i64 x
  | .bool, x => .b x
  | .u8, x => .u8 x
  | .str, x => .str x
  | .ik k, x => .i k x
  | .sl t, xs => .sl t xs
theorem opnV_ok {m : Mn E} {t : Ty} {x : t.den E} {v : Value} (h : IsV m.G t x v) : RV m (opnV F t x) v := by
  cases t with
  | st n => obtain ⟨cs, rfl, h⟩ := h; exact mkRow_ok (F.opens n x m cs h)
  | _ => exact h
def shutV (bs : List Bool) : (t : Ty) → SV E → Option (t.den E)
  | .st n, x => match x with | .agg l => F.shut n bs l | .vec k q l => F.shut n bs [.vec k q l] | _ => none
  | .dig, x => match x with | .dig d => some d | _ => none
  | .int, x => match x with | .i .i64 n => some n | _ => none
  | .bool, x => asB bs x
  | .u8, x => match x with | .u8 n => some n | _ => none
  | .str, x => match x with | .str n => some n | _ => none
  | .ik k, x => match x with | .i k' n => bif decide (k' = k) then some n else none | _ => none
  | .sl t, x => gSl t x
theorem gSl_L {m : Mn E} {t : Ty} {x : SV E} {a : List (t.den E)} {v : Value} (h : gSl t x = some a) (hv : RV m x v) : Sl m.G v a := by
  unfold gSl at h; split at h
  · simp only [Option.some.injEq] at h; subst h; have hv : v = _ := leaf_L rfl hv; subst hv; exact Sl.nil_ _
  · rename_i t' xs
    exact Sl.to h (leaf_L rfl hv)
  · cases h
theorem shutV_ok {m : Mn E} {t : Ty} {x : SV E} {a : t.den E} {v : Value} (h : shutV F m.bs t x = some a) (hv : RV m x v) : IsV m.G t a v := by
  cases t with
  | st n =>
    simp only [shutV] at h; split at h
    · obtain ⟨cs, rfl, hc⟩ := hv; exact ⟨cs, rfl, F.shuts n a m _ cs h hc⟩
    · obtain ⟨rfl, hv⟩ := hv; exact ⟨_, rfl, F.shuts n a m _ _ h ⟨_, [], by simp, ⟨rfl, hv⟩, rfl⟩⟩
    · cases h
  | dig =>
    simp only [shutV] at h; split at h
    · simp only [Option.some.injEq] at h; subst h; exact hv
    · cases h
  | int =>
    simp only [shutV] at h; split at h
    · simp only [Option.some.injEq] at h; subst h; exact hv
    · cases h
  | bool => exact asB_ok h hv
  | u8 =>
    simp only [shutV] at h; split at h
    · simp only [Option.some.injEq] at h; subst h; exact hv
    · cases h
  | str =>
    simp only [shutV] at h; split at h
    · simp only [Option.some.injEq] at h; subst h; exact hv
    · cases h
  | ik k =>
    simp only [shutV] at h; split at h
    · rename_i k' x
      cases hk : decide (k' = k) with
      | false => rw [hk] at h; cases h
      | true =>
        rw [hk] at h
        have hk := of_decide_eq_true hk
        subst hk
        simp only [cond_true, Option.some.injEq] at h; subst h; exact hv
    · cases h
  | sl t => exact gSl_L h hv
end Go.Vz
