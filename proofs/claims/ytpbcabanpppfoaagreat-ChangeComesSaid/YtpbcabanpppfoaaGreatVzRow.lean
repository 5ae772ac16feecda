/- Walks by reckoning: equality of structs. No condition. -/
import Derived.Test.YtpbcabanpppfoaaGreatVzOps
import Derived.Test.YtpbcabanpppfoaaGreatGxMore
set_option linter.all false
namespace Go.Vz
open Go Go.Gx
variable {E : DE} (P : Program)
def isBoolT' (t : Nat) : Bool := match P.underlying t with | some .bool => true | _ => false
def isIntT (t : Nat) (k : IntKind) : Bool := match P.underlying t with | some (.int k') => decide (k' = k) | _ => false
def eq1 (bs : List Bool) (t : Nat) (x y : SV E) : Option Bool := match asI x, asI y with
  | some (k, n), some (k', n') => bif isIntT P t k' && (oneOk P t && decide (k = k')) then some (n == n') else none
  | _, _ => match asB bs x, asB bs y with
    | some p, some q => bif isBoolT' P t && oneOk P t then some (p == q) else none
    | _, _ => match x, y with
      | .dig a, .dig b => bif bytes32 P t && rowOk P t 32 then some (decide (a = b)) else none
      | _, _ => none
def eqF (bs : List Bool) : List (Nat × Nat) → List (SV E) → List (SV E) → Nat → Option Bool
  | [], [], [], _ => some true
  | (t, off) :: L, x :: l, y :: k, o => bif Nat.beq off o then match eq1 P bs t x y, eqF bs L l k (o + x.w) with
      | some r1, some r2 => some (r1 && r2)
      | _, _ => none
    else none
  | _, _, _, _ => none
def fieldsL (t : Nat) : List (Nat × Nat) := match P.underlying t with
  | some (.struct fs) => fs.toList.map fun f => (f.type, f.offset)
  | _ => []
def eqSV (bs : List Bool) (t : Nat) (l k : List (SV E)) : Option Bool := bif fieldsAre P t (fieldsL P t) && !P.eqGuardType P.depth t then eqF P bs (fieldsL P t) l k 0 else none
variable {P}
theorem asI_leaf {x : SV E} {k : IntKind} {n : Int} (h : asI x = some (k, n)) : leaf x = true := by
  cases x <;> first | rfl | (simp [asI] at h; done)
theorem leaf_w {x : SV E} (h : leaf x = true) : x.w = 1 := by cases x <;> first | rfl | (cases h; done)
theorem eqF_ok {m : Mn E} {xs ys : List Value} : ∀ {L : List (Nat × Nat)} {l k : List (SV E)} {o : Nat} {r : Bool}, eqF P m.bs L l k o = some r → RC m l (xs.drop o) → RC m k (ys.drop o) → eqP P 9999 xs.toArray ys.toArray L r
  | [], [], [], _, r, h, _, _ => by simp only [eqF, Option.some.injEq] at h; exact h.symm
  | (t, off) :: L, x :: l, y :: k, o, r, h, hx, hy => by
    simp only [eqF] at h
    cases hb : Nat.beq off o with
    | false => rw [hb] at h; cases h
    | true =>
      rw [hb] at h
      simp only [cond_true] at h
      have := Nat.eq_of_beq_eq_true hb
      subst this
      split at h
      · rename_i r1 r2 h1 h2
        simp only [Option.some.injEq] at h
        obtain ⟨c1, c2, e1, g1, g2⟩ := hx
        obtain ⟨d1, d2, e2, k1, k2⟩ := hy
        have l1 := g1.len
        have l2 := k1.len
        have dx : xs.drop (off + x.w) = c2 := by rw [← List.drop_drop, e1, ← l1]; simp
        have dy : ys.drop (off + y.w) = d2 := by rw [← List.drop_drop, e2, ← l2]; simp
        have one : ∀ {zs c1 c2 : List Value} {v : Value}, zs.drop off = c1 ++ c2 → c1 = [v] → zs.toArray[off]? = some v := fun {zs c1 c2 v} he hc => by
          subst hc
          have := congrArg (·[0]?) he
          simpa using this
        unfold eq1 at h1
        split at h1
        · rename_i k n k' n' i1 i2
          cases hc : isIntT P t k' && (oneOk P t && decide (k = k')) with
          | false => rw [hc] at h1; cases h1
          | true =>
            rw [hc] at h1; simp only [cond_true, Option.some.injEq] at h1
            simp only [Bool.and_eq_true, decide_eq_true_eq] at hc
            obtain ⟨q1, q2, q3⟩ := hc
            obtain ⟨v, rfl, j1⟩ := g1.leaf_ (asI_leaf i1)
            obtain ⟨u, rfl, j2⟩ := k1.leaf_ (asI_leaf i2)
            have := asI_ok i1 (leaf_RV (asI_leaf i1) j1); subst this
            have := asI_ok i2 (leaf_RV (asI_leaf i2) j2); subst this
            unfold isIntT at q1
            split at q1
            · rename_i kk hu
              have := of_decide_eq_true q1
              subst this
              refine ⟨_, _, r1, r2, run_part_one q2 (one e1 rfl), run_part_one q2 (one e2 rfl), fun w => ?_, eqF_ok h2 (by rw [dx]; exact g2) (by rw [leaf_w (asI_leaf i1), ← leaf_w (asI_leaf i2), dy]; exact k2), h.symm⟩
              rw [← h1, ← q3]; exact run_equalIn_int w 9998 t k kk n n' hu
            · cases q1
        · split at h1
          · rename_i p q i1 i2
            cases hc : isBoolT' P t && oneOk P t with
            | false => rw [hc] at h1; cases h1
            | true =>
              rw [hc] at h1; simp only [cond_true, Option.some.injEq] at h1
              simp only [Bool.and_eq_true] at hc
              obtain ⟨q1, q2⟩ := hc
              obtain ⟨v, rfl, j1⟩ := g1.leaf_ (asB_leaf i1)
              obtain ⟨u, rfl, j2⟩ := k1.leaf_ (asB_leaf i2)
              have := asB_ok i1 (leaf_RV (asB_leaf i1) j1); subst this
              have := asB_ok i2 (leaf_RV (asB_leaf i2) j2); subst this
              unfold isBoolT' at q1
              split at q1
              · rename_i hu
                refine ⟨_, _, r1, r2, run_part_one q2 (one e1 rfl), run_part_one q2 (one e2 rfl), fun w => ?_, eqF_ok h2 (by rw [dx]; exact g2) (by rw [leaf_w (asB_leaf i1), ← leaf_w (asB_leaf i2), dy]; exact k2), h.symm⟩
                rw [← h1]; exact run_equalIn_bool' w 9998 t _ _ hu
              · cases q1
          · split at h1
            · rename_i a b _ _
              cases hc : bytes32 P t && rowOk P t 32 with
              | false => rw [hc] at h1; cases h1
              | true =>
                rw [hc] at h1; simp only [cond_true, Option.some.injEq] at h1
                simp only [Bool.and_eq_true] at hc
                obtain ⟨q1, q2⟩ := hc
                have g1 : c1 = a.cells := g1
                have k1 : d1 = b.cells := k1
                have ex : ∀ {zs c1 c2 : List Value} {a : Dig}, zs.drop off = c1 ++ c2 → c1 = a.cells → zs.toArray.extract off (off + 32) = a.cells.toArray := fun {zs c1 c2 a} he hc => by
                  subst hc
                  rw [List.extract_toArray]
                  congr 1
                  simp only [List.extract_eq_take_drop, Nat.add_sub_cancel_left]
                  rw [he, List.take_append_of_le_length (by simp), List.take_of_length_le (by simp)]
                refine ⟨_, _, r1, r2, run_part_row q2, run_part_row q2, fun w => ?_, eqF_ok h2 (by rw [dx]; exact g2) (by rw [show SV.w (.dig a : SV E) = SV.w (.dig b : SV E) from rfl, dy]; exact k2), h.symm⟩
                rw [ex e1 g1, ex e2 k1, ← h1]; exact run_equalIn_dig q1 a b w
            · cases h1
      · cases h
  | [], _ :: _, _, _, _, h, _, _ => by simp [eqF] at h
  | [], [], _ :: _, _, _, h, _, _ => by simp [eqF] at h
  | _ :: _, [], _, _, _, h, _, _ => by simp [eqF] at h
  | _ :: _, _ :: _, [], _, _, h, _, _ => by simp [eqF] at h
theorem eqSV_ok {m : Mn E} {t : Nat} {l k : List (SV E)} {r : Bool} {xs ys : List Value} (h : eqSV P m.bs t l k = some r) (hx : RC m l xs) (hy : RC m k ys) : (∀ w, (Op.equalIn 10000 t (.agg xs.toArray) (.agg ys.toArray)).run P w = .ok r w) ∧ P.eqGuardType P.depth t = false := by
  unfold eqSV at h
  cases hc : fieldsAre P t (fieldsL P t) && !P.eqGuardType P.depth t with
  | false => rw [hc] at h; cases h
  | true =>
    rw [hc] at h
    simp only [cond_true] at h
    simp only [Bool.and_eq_true, Bool.not_eq_true'] at hc
    exact ⟨fun w => run_equalIn_fields (d := 9999) hc.1 (eqF_ok h (by simpa using hx) (by simpa using hy)) w, hc.2⟩
end Go.Vz

namespace Go.Vz
open Go Go.Gx
variable {E : DE}
/-- A place within a row is written. -/
def splice (c : List (SV E)) (o n : Nat) (x : List (SV E)) : Option (List (SV E)) := bif Nat.beq (wid x) n then match takeW o c, dropW (o + n) c with
    | some a, some b => some (a ++ x ++ b)
    | _, _ => none
  else none
theorem RC.append {m : Mn E} : ∀ {a b : List (SV E)} {ca cb : List Value}, RC m a ca → RC m b cb → RC m (a ++ b) (ca ++ cb)
  | [], b, ca, cb, h, hb => by rw [show ca = _ from h]; exact hb
  | x :: a, b, ca, cb, ⟨c1, c2, e, h1, h2⟩, hb => ⟨c1, c2 ++ cb, by rw [e, List.append_assoc], h1, h2.append hb⟩
theorem dropW_le : ∀ {l : List (SV E)} {n : Nat} {r : List (SV E)}, dropW n l = some r → n ≤ wid l
  | _, 0, _, _ => Nat.zero_le _
  | [], n + 1, r, h => by simp [dropW] at h
  | a :: t, n + 1, r, h => by
    unfold dropW at h
    cases hb : Nat.ble a.w (n + 1) with
    | false => rw [hb] at h; cases h
    | true =>
      rw [hb] at h
      have hle := Nat.le_of_ble_eq_true hb
      have := dropW_le (show dropW (n + 1 - a.w) t = some r from h)
      simp only [wid]; omega
theorem RC.splice {m : Mn E} {c x r : List (SV E)} {o n : Nat} {cs xs : List Value} (h : Vz.splice c o n x = some r) (hc : RC m c cs) (hx : RC m x xs) : RC m r (cs.take o ++ xs ++ cs.drop (o + n)) ∧ xs.length = n ∧ o + n ≤ cs.length := by
  unfold Vz.splice at h
  cases hb : Nat.beq (wid x) n with
  | false => rw [hb] at h; cases h
  | true =>
    rw [hb] at h
    simp only [cond_true] at h
    split at h
    · rename_i a b ha hb'
      simp only [Option.some.injEq] at h; subst h
      refine ⟨((hc.take ha).append hx).append (hc.drop hb'), by rw [hx.len]; exact Nat.eq_of_beq_eq_true hb, by rw [hc.len]; exact dropW_le hb'⟩
    · cases h
/-- Functions that the model stands in for. -/
inductive XK where
  | add64
  | addT (k : IntKind)
  | cmp
def XOk (P : Program) (f : Nat) : XK → Prop
  | .add64 => ∀ (x y c : Int) (w : World), 0 ≤ x → 0 ≤ y → 0 ≤ c → c ≤ 1 → (callFunc f #[.int .u64 x, .int .u64 y, .int .u64 c]).run P w = .ok (.value (.tuple #[.int .u64 ((x + y + c) % 18446744073709551616), .int .u64 ((x + y + c) / 18446744073709551616)])) w
  | .addT k => ∀ (a : Addr) (x y : Int) (w : World), w.cell? a = some (.int k x) → w.frozen? a = false → (callFunc f #[.pointer (some a), .int k y]).run P w = .ok (.value (.int k (k.wrap (x + y)))) (w.setCell a (.int k (k.wrap (x + y))))
  | .cmp => ∀ (G : Gh) (v1 v2 : Value) (a b : List UInt8) (w : World), Holds G w → Sl G v1 a → Sl G v2 b → (callFunc f #[v1, v2]).run P w = .ok (.value (.int .i64 (cmpB a b))) w
/-- Calls that change nothing: what they answer. -/
def PcOk (P : Program) (pc : Nat → List (SV E) → St E → Option (SV E)) : Prop := ∀ (f : Nat) (l : List (SV E)) (s : St E) (x : SV E), pc f l s = some x →
  ∀ (w0 : World) (G0 : Gh) (m : Mn E) (w : World) (vs : List Value), RelH w0 G0 s m w → l.length = vs.length → (∀ (i : Nat) (y : SV E), l[i]? = some y → ∃ v, vs[i]? = some v ∧ RV m y v) →
    Calls P f vs.toArray w fun e w' => ∃ v, e = .returned v ∧ ∃ m', Up m m' ∧ RelH w0 G0 s m' w' ∧ RV m' x v
/-- What a type's zero is. -/
structure ZF (P : Program) (E : DE) where
  t : Nat → Option Ty := fun _ => none
  z : Nat → Option (List (SV E))
  ok : ∀ t l, z t = some l → ∃ cs, (P.info? t).bind (fun i => i.zero.map Value.cells) = some cs.toArray ∧ ∀ m : Mn E, RC m l cs
  zs : Nat → Option (SV E) := fun _ => none
  zok : ∀ t x, zs t = some x → ∃ v, (P.info? t).bind (fun i => i.zero) = some v ∧ ∀ m : Mn E, RV m x v
  ky : Nat → Option Ty := fun _ => none
  kok : ∀ t k, ky t = some k → KeyL P t (k.enc E) ∧ ∀ (G : Gh) (x : k.den E) (v : Value), IsV G k x v ↔ v = k.enc E x
  ex : Nat → Option XK := fun _ => none
  exok : ∀ f k, ex f = some k → XOk P f k := by intro _ _ h; cases h
  pc : Nat → List (SV E) → St E → Option (SV E) := fun _ _ _ => none
  pcok : PcOk P pc := by intro _ _ _ _ h; cases h
  mg : Bool := false
  sk : Bool := false
def ZF.kyB {P : Program} (Z : ZF P E) (kt : Nat) (k : Ty) : Bool := match Z.ky kt with | some k' => decide (k' = k) | none => false
theorem ZF.kyB_ok {P : Program} {Z : ZF P E} {kt : Nat} {k : Ty} (h : Z.kyB kt k = true) : KeyL P kt (k.enc E) ∧ ∀ (G : Gh) (x : k.den E) (v : Value), IsV G k x v ↔ v = k.enc E x := by
  unfold ZF.kyB at h
  split at h
  · rename_i k' hk
    have := of_decide_eq_true h
    subst this
    exact Z.kok _ _ hk
  · cases h
/-- A struct's literal. -/
def bldSV (pl : List (Nat × Nat)) : List (SV E) → List Nat → List (SV E) → Option (List (SV E))
  | c, [], [] => some c
  | c, i :: is, x :: xs => match pl[i]?, cellsOf x with
    | some (off, sz), some r => match splice c off sz r with | some c' => bldSV pl c' is xs | none => none
    | _, _ => none
  | _, _, _ => none
def fieldsP (P : Program) (t : Nat) : List (Nat × Nat) := match P.underlying t with
  | some (.struct fs) => fs.toList.map fun f => (f.offset, match P.info? f.type with | some i => i.size | none => 0)
  | _ => []
theorem bldSV_ok {m : Mn E} {pl : List (Nat × Nat)} : ∀ {is : List Nat} {xs c c' : List (SV E)} {vs cs : List Value}, bldSV pl c is xs = some c' → RC m c cs → vs.length = xs.length → (∀ (i : Nat) (x : SV E), xs[i]? = some x → ∃ v, vs[i]? = some v ∧ RV m x v) →
    ∃ cs', buildCells pl cs ((is.zip vs).map fun p => (p.1, p.2.cells.toList)) = some cs' ∧ RC m c' cs'
  | [], [], c, c', vs, cs, h, hc, hl, _ => by
    simp only [bldSV, Option.some.injEq] at h; subst h
    exact ⟨cs, rfl, hc⟩
  | i :: is, x :: xs, c, c', [], cs, h, hc, hl, hv => by simp at hl
  | i :: is, x :: xs, c, c', v :: vs, cs, h, hc, hl, hv => by
    simp only [bldSV] at h
    split at h
    · rename_i off sz r hp hr
      split at h
      · rename_i c1 h1
        obtain ⟨u, e1, e2⟩ := hv 0 x rfl
        simp only [List.getElem?_cons_zero, Option.some.injEq] at e1; subst e1
        obtain ⟨rs, h3, h4⟩ := cellsOf_ok hr e2
        obtain ⟨k1, k2, k3⟩ := hc.splice h1 h4
        obtain ⟨cs', g1, g2⟩ := bldSV_ok (vs := vs) h k1 (by simpa using hl) fun j y hj => by simpa using hv (j + 1) y (by simpa using hj)
        refine ⟨cs', ?_, g2⟩
        simp only [List.zip_cons_cons, List.map_cons, buildCells, hp, h3]
        rw [if_pos ⟨k2, k3⟩]; exact g1
      · cases h
    · cases h
  | [], _ :: _, _, _, _, _, h, _, _, _ => by simp [bldSV] at h
  | _ :: _, [], _, _, _, _, h, _, _, _ => by simp [bldSV] at h
/-- Thirty-two bytes, written out. -/
def digPut (d : Dig) (i : Nat) (x : UInt8) : Dig := ⟨d.l.set i x, by simp [d.h]⟩
def bldD : Dig → List Nat → List (SV E) → Option Dig
  | d, [], [] => some d
  | d, i :: is, x :: xs => match x with
    | .u8 x => bif Nat.blt i 32 then bldD (digPut d i x) is xs else none
    | _ => none
  | _, _, _ => none
def arrEl (P : Program) (t : Nat) : Option Nat := match P.underlying t with | some (.array _ e) => some e | _ => none
theorem bldD_ok {m : Mn E} : ∀ {is : List Nat} {xs : List (SV E)} {d d' : Dig} {vs : List Value}, bldD d is xs = some d' → vs.length = xs.length → (∀ (i : Nat) (x : SV E), xs[i]? = some x → ∃ v, vs[i]? = some v ∧ RV m x v) →
    buildA 1 d.cells ((is.zip vs).map fun p => (p.1, p.2.cells.toList)) = some d'.cells
  | [], [], d, d', vs, h, _, _ => by simp only [bldD, Option.some.injEq] at h; subst h; rfl
  | i :: is, x :: xs, d, d', [], h, hl, _ => by simp at hl
  | i :: is, x :: xs, d, d', v :: vs, h, hl, hv => by
    simp only [bldD] at h
    split at h
    · rename_i x
      cases hb : Nat.blt i 32 with
      | false => rw [hb] at h; cases h
      | true =>
        rw [hb] at h
        simp only [cond_true] at h
        have hlt : i < 32 := Nat.le_of_ble_eq_true hb
        obtain ⟨u, e1, e2⟩ := hv 0 _ rfl
        simp only [List.getElem?_cons_zero, Option.some.injEq] at e1; subst e1
        have e2 : v = _ := e2
        subst e2
        have ih := bldD_ok (vs := vs) h (by simpa using hl) fun j y hj => by simpa using hv (j + 1) y (by simpa using hj)
        simp only [List.zip_cons_cons, List.map_cons, buildA]
        rw [if_pos ⟨rfl, by rw [Dig.length_cells]; omega⟩]
        have : d.cells.take (i * 1) ++ (Value.int .u8 (x.toNat : Int)).cells.toList ++ d.cells.drop (i * 1 + 1) = (digPut d i x).cells := by
          unfold Dig.cells digPut
          rw [Nat.mul_one]
          show List.take i (d.l.map _) ++ [_] ++ _ = (d.l.set i x).map _
          rw [List.map_set, List.set_eq_take_append_cons_drop, if_pos (by rw [List.length_map, d.h]; exact hlt)]
          simp
        rw [this]; exact ih
    · cases h
  | [], _ :: _, _, _, _, h, _, _ => by simp [bldD] at h
  | _ :: _, [], _, _, _, h, _, _ => by simp [bldD] at h
end Go.Vz
