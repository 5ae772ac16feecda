/- More operations: elements of arrays in boxes, one less. No condition. -/
import Derived.Test.YtljcgggflgbenaaGreatDoorGxExt
set_option linter.all false
namespace Go.Gx
open Go Go.RowKit
variable {M : Mu}
def arrOk (P : Program) (t len el sz : Nat) : Bool :=
  (match P.underlying t with | some (.array n e') => Nat.beq n len && Nat.beq el e' | _ => false) && (match P.info? el with | some i => Nat.beq i.size sz | none => false)
section
variable {P : Program} {N : Nat} {e : Env} {w : World} {d : Option Tmp} {ty : TypeId} {pos : String} {af : Array Edge} {gd : Option (Nat × Bool)}
theorem opIndexArr {t len el sz : Nat} {x y : Operand} {b o i : Nat} {k : IntKind} (hx : opv e x = some (.pointer (some ⟨b, o, none⟩))) (hy : opv e y = some (.int k (i : Int)))
    (ht : arrOk P t len el sz = true) (hi : i < len) : OpVal P N e w ⟨d, .indexAddr t x y, ty, pos, af, gd⟩ (.pointer (some ⟨b, o + i * sz, none⟩)) := fun a ha => by
  unfold arrOk at ht
  rw [Bool.and_eq_true] at ht
  obtain ⟨h1, h2⟩ := ht
  revert h1
  split
  · rename_i n e' hu
    intro h1
    rw [Bool.and_eq_true] at h1
    have h3 := Nat.eq_of_beq_eq_true h1.1
    have h4 := Nat.eq_of_beq_eq_true h1.2
    subst h3; subst h4
    cases hq : P.info? el with
    | none => simp [hq] at h2
    | some tinf =>
      rw [hq] at h2
      have hz := Nat.eq_of_beq_eq_true h2
      simp [execOp, ha.eval hx, ha.eval hy, Instr.indexAt, asIntOf, run_underlying hu, hi, sizeOf, typeInfo, hq, hz, Addr.add_mid, Instr.sureAddr]
  · intro h; cases h
theorem opDecr {t yt : TypeId} {x y : Operand} {a : Nat} (hx : opv e x = some (.int .i64 (a : Int))) (hy : opv e y = some (.int .i64 1)) (h0 : 0 < a) (h : a < 4611686018427387904) :
    OpVal P N e w ⟨d, .binOp .sub t x y yt, ty, pos, af, gd⟩ (.int .i64 ((a - 1 : Nat) : Int)) := opBin hx hy (by
    have : IntKind.i64.wrap ((a : Int) - 1) = ((a - 1 : Nat) : Int) := by rw [IntWalk.i64_in _ (by omega)]; omega
    simp [binOp, Op.intArith, this])
theorem opRem {t yt : TypeId} {x y : Operand} {k : IntKind} {a b : Int} (hx : opv e x = some (.int k a)) (hy : opv e y = some (.int k b)) (h0 : b ≠ 0) :
    OpVal P N e w ⟨d, .binOp .rem t x y yt, ty, pos, af, gd⟩ (.int k (a.tmod b)) := opBin hx hy (by simp [binOp, Op.intDiv, h0])
theorem Dig.cellAt (x : Dig) {i : Nat} (hi : i < 32) : x.cells[0 + i * 1]? = some (.int .u8 ((x.l.getD i 0).toNat : Int)) := by
  have h : i < x.l.length := by rw [x.h]; exact hi
  simp [Dig.cells, h]
def buildA (sz : Nat) : List Value → List (Nat × List Value) → Option (List Value)
  | cs, [] => some cs
  | cs, (i, r) :: ps => if r.length = sz ∧ i * sz + sz ≤ cs.length then buildA sz (cs.take (i * sz) ++ r ++ cs.drop (i * sz + sz)) ps else none
theorem fillA_of {sz : Nat} : ∀ (ps : List (Nat × Value)) (cs cs' : List Value), buildA sz cs (ps.map fun p => (p.1, p.2.cells.toList)) = some cs' → Instr.fill (fun i => some (i * sz, sz)) cs.toArray ps = some cs'.toArray
  | [], cs, cs', h => by simp [buildA] at h; subst h; rfl
  | (i, v) :: ps, cs, cs', h => by
    simp only [List.map_cons, buildA] at h
    unfold Instr.fill
    simp only [Array.length_toList] at h
    split at h
    · rename_i hc
      simp only []
      rw [if_neg (by simp; omega)]
      have := fold_cells (i * sz) v (cs.take (i * sz)) ((cs.drop (i * sz)).take sz) (cs.drop (i * sz + sz)) cs.toArray (by
        rw [List.append_assoc, ← List.drop_drop, List.take_append_drop, List.take_append_drop]) (by simp; omega) (by simp; omega)
      rw [this]
      exact fillA_of ps _ cs' h
    · cases h
theorem opBuildArr {t len el sz : Nat} {ps : List (Nat × Operand)} {vs : List Value} {rows : List (Nat × List Value)} {z cs : List Value} (ht : arrOk P t len el sz = true) (hz : (P.info? t).bind (fun i => i.zero.map Value.cells) = some z.toArray)
    (hvs : opvs e (ps.map (·.2)) = some vs) (hr : ((ps.map (·.1)).zip vs).map (fun p => (p.1, p.2.cells.toList)) = rows) (hb : buildA sz z rows = some cs) :
    OpVal P N e w ⟨d, .build t ps.toArray, ty, pos, af, gd⟩ (.agg cs.toArray) := fun a ha => by
  have hp := ha.parts hvs
  have hpa : (ps.toArray.map fun (p : Nat × Operand) => (p.1, a.eval p.2)) = ((ps.map (·.1)).zip vs).toArray := Array.ext' (by rw [hp])
  subst hr
  have hf := fillA_of _ z cs hb
  unfold arrOk at ht
  rw [Bool.and_eq_true] at ht
  obtain ⟨h1, h2⟩ := ht
  revert h1
  split
  · rename_i n e' hu
    intro h1
    rw [Bool.and_eq_true] at h1
    have h4 := Nat.eq_of_beq_eq_true h1.2
    subst h4
    cases hq : P.info? t with
    | none => simp [hq] at hz
    | some i =>
      cases hzz : i.zero with
      | none => simp [hq, hzz] at hz
      | some zv =>
        simp [hq, hzz] at hz
        cases hqe : P.info? el with
        | none => simp [hqe] at h2
        | some tinf =>
          rw [hqe] at h2
          have hzs := Nat.eq_of_beq_eq_true h2
          have hsz := sizeOf_of (P := P) (t := el) (n := sz) (by simp [hqe, hzs]) w
          simp [execOp, Instr.build, zeroValue, typeInfo, hq, hzz, run_underlying hu, hsz, hpa, hz, hf]
  · intro h; cases h
end
theorem Bxs.swapOwn1 {G : Gh} {w : World} {n : Nat} {X A B bl r : List Bx} (h : Bxs G w n (bl ++ (X ++ (A ++ (B ++ r)))) M) : Bxs G w n (bl ++ (X ++ (B ++ (A ++ r)))) M :=
  h.perm (List.Perm.append_left bl (List.Perm.append_left X (by rw [← List.append_assoc, ← List.append_assoc]; exact List.perm_append_comm.append_right r)))
end Go.Gx
